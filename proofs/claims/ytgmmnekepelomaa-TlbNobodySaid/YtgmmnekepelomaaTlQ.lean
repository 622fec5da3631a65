/- Tlb: plain laws: where a page is found; how many are. -/
import Derived.Test.YtgmmnekepelomaaTlP
namespace Go.Proofs.Ytgmmnekepelomaa

/-- No page in two. -/
def apart (x y : Tr) : Prop := x.stop ≤ y.p ∨ y.stop ≤ x.p
def Tl.dis (s : Tl) : Prop := s.l.Pairwise apart
theorem meets_apart {x y : Tr} (h : y.meets x.p x.stop = false) : apart y x := by
  unfold Tr.meets at h
  have := x.stop_gt
  unfold apart
  simp at h
  omega
theorem dis_drop {s : Tl} (h : s.dis) (a b : Int) : (s.drop a b).dis := List.Pairwise.filter _ h
theorem dis_dropAt {s : Tl} (h : s.dis) (i : Int) : (s.dropAt i).dis := by
  unfold Tl.dropAt
  split
  · exact h.sublist (List.eraseIdx_sublist _ _)
  · exact h
theorem dis_room {s : Tl} (h : s.dis) : s.room.dis := by
  unfold Tl.room
  split
  · exact h.sublist (List.tail_sublist _)
  · exact h
theorem room_mem {s : Tl} {x : Tr} (h : x ∈ s.room.l) : x ∈ s.l := by
  unfold Tl.room at h
  split at h
  · exact List.mem_of_mem_tail h
  · exact h
theorem dis_fill {s : Tl} (h : s.dis) (x : Tr) : (s.fill x).dis := by
  unfold Tl.fill
  split
  · refine List.pairwise_append.2 ⟨dis_room (dis_drop h _ _), List.pairwise_singleton _ _, fun y hy z hz => ?_⟩
    obtain rfl : z = x := by simpa using hz
    have := (List.mem_filter.1 (room_mem hy)).2
    exact meets_apart (by simpa using this)
  · exact h
theorem dis_step {s : Tl} (h : s.dis) (a : TAct) : (s.step a).dis := by
  unfold Tl.step
  split
  · exact dis_fill h _
  · split
    · exact dis_drop h _ _
    · split
      · exact dis_dropAt h _
      · exact h
theorem dis_made (n : Nat) : (Tl.made n).dis := List.Pairwise.nil

/-! ### How many pages are found -/
/-- How many of its pages are below P. -/
def ov (x : Tr) (P : Int) : Nat := (min x.stop P - x.p).toNat
def total (l : List Tr) (P : Int) : Nat := (l.map (ov · P)).sum
theorem ov_succ (x : Tr) (P : Int) : ov x (P + 1) = ov x P + if x.has P then 1 else 0 := by
  unfold ov Tr.has
  by_cases h1 : x.p ≤ P
  · by_cases h2 : P < x.stop
    · simp [h1, h2]; omega
    · simp [h1, h2]; omega
  · simp [h1]
    have := x.stop_gt
    omega
theorem no_other {x y : Tr} (h : apart x y) {P : Int} (hx : x.has P = true) : y.has P = false := by
  unfold apart at h
  unfold Tr.has at *
  simp at *
  omega
theorem total_succ : ∀ (l : List Tr) (P : Int), l.Pairwise apart → total l (P + 1) = total l P + if (l.find? (·.has P)).isSome then 1 else 0
  | [], P, _ => rfl
  | x :: l, P, h => by
    have ih := total_succ l P (List.pairwise_cons.1 h).2
    have h1 : total (x :: l) (P + 1) = ov x (P + 1) + total l (P + 1) := rfl
    have h2 : total (x :: l) P = ov x P + total l P := rfl
    rw [h1, h2, ov_succ, ih, List.find?_cons]
    cases hx : x.has P
    · simp; omega
    · have : l.find? (·.has P) = none := by
        rw [List.find?_eq_none]
        intro y hy
        have := no_other ((List.pairwise_cons.1 h).1 y hy) hx
        simp [this]
      rw [this]
      simp; omega
theorem total_lo (l : List Tr) (h : ∀ x ∈ l, x.may = true) : total l (-1) = 0 := by
  unfold total
  rw [List.sum_eq_zero_iff_forall_eq_nat]
  intro n hn
  obtain ⟨x, hx, rfl⟩ := List.mem_map.1 hn
  have := Tr.may_lo (h x hx)
  unfold ov
  omega
theorem may_stop {x : Tr} (h : x.may = true) : x.stop ≤ 4096 := by
  unfold Tr.may at h
  unfold Tr.stop
  simp at h
  split
  · rename_i hh
    rcases h.2.2.2.2.2 with h6 | h6
    · rw [h6] at hh; cases hh
    · omega
  · omega
/-- All their pages. -/
def pages (l : List Tr) : Int := (l.map fun x => x.stop - x.p).sum
theorem total_hi (l : List Tr) (h : ∀ x ∈ l, x.may = true) : (total l 4097 : Int) = pages l := by
  induction l with
  | nil => rfl
  | cons x l ih =>
    have h1 := may_stop (h x List.mem_cons_self)
    have h3 := x.stop_gt
    have h2 : total (x :: l) 4097 = ov x 4097 + total l 4097 := rfl
    have h4 : pages (x :: l) = (x.stop - x.p) + pages l := by simp [pages]
    rw [h2, h4, ← ih fun y hy => h y (List.mem_cons_of_mem _ hy)]
    unfold ov
    omega
theorem total_le (l : List Tr) (P : Int) : total l P ≤ l.length * 8 := by
  induction l with
  | nil => exact Nat.le_refl _
  | cons x l ih =>
    have h2 : total (x :: l) P = ov x P + total l P := rfl
    have h3 := x.stop_le
    rw [h2, List.length_cons]
    unfold ov
    omega
theorem pages_succ (l : List Tr) (k : Nat) (h : k < l.length) : pages (l.take (k + 1)) = pages (l.take k) + (l[k].stop - l[k].p) := by
  rw [take_snoc l k h]
  unfold pages
  rw [List.map_append, List.sum_append]
  simp
theorem pages_le (l : List Tr) : 0 ≤ pages l ∧ pages l ≤ l.length * 8 := by
  induction l with
  | nil => decide
  | cons x l ih =>
    have h4 : pages (x :: l) = (x.stop - x.p) + pages l := by simp [pages]
    have := x.stop_gt
    have := x.stop_le
    rw [h4, List.length_cons]
    omega

/-! ### What was filled last -/
theorem fill_find {s : Tl} {x : Tr} (hx : x.may = true) {p : Int} (h1 : x.p ≤ p) (h2 : p < x.stop) : (s.fill x).find p = some x := by
  unfold Tl.fill Tl.find
  rw [if_pos hx]
  have hn : (s.drop x.p x.stop).room.l.find? (·.has p) = none := by
    rw [List.find?_eq_none]
    intro y hy
    have hy1 := (List.mem_filter.1 (room_mem hy)).2
    have := meets_apart (x := x) (y := y) (by simpa using hy1)
    unfold apart at this
    unfold Tr.has
    simp
    omega
  show ((s.drop x.p x.stop).room.l ++ [x]).find? _ = _
  rw [List.find?_append, hn, Option.none_or]
  have hh : x.has p = true := by unfold Tr.has; simp [h1, h2]
  rw [List.find?_cons, hh]
theorem fill_drop {s : Tl} {x : Tr} (hx : x.may = true) : ((s.fill x).drop x.p (x.p + 1)).l = (s.drop x.p x.stop).room.l ∧ (s.fill x).l.length = (s.drop x.p x.stop).room.l.length + 1 := by
  unfold Tl.fill
  rw [if_pos hx]
  have hg := x.stop_gt
  refine ⟨?_, by simp⟩
  show (((s.drop x.p x.stop).room.l ++ [x]).filter _) = _
  rw [List.filter_append]
  have h1 : ([x] : List Tr).filter (fun y => !y.meets x.p (x.p + 1)) = [] := by
    rw [List.filter_cons_of_neg]
    · rfl
    · unfold Tr.meets
      simp
      omega
  rw [h1, List.append_nil]
  rw [List.filter_eq_self]
  intro y hy
  have hy1 := (List.mem_filter.1 (room_mem hy)).2
  have := meets_apart (x := x) (y := y) (by simpa using hy1)
  unfold apart at this
  unfold Tr.meets
  simp
  omega
theorem gone_find {s : Tl} {x : Tr} (hx : x.may = true) {p : Int} (h1 : x.p ≤ p) (h2 : p < x.stop) : ((s.fill x).drop x.p (x.p + 1)).find p = none := by
  unfold Tl.find
  rw [(fill_drop hx).1, List.find?_eq_none]
  intro y hy
  have hy1 := (List.mem_filter.1 (room_mem hy)).2
  have := meets_apart (x := x) (y := y) (by simpa using hy1)
  unfold apart at this
  unfold Tr.has
  simp
  omega
end Go.Proofs.Ytgmmnekepelomaa
