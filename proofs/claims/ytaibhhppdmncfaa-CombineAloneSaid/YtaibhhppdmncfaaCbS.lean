/- Combine: plain laws: how many are not told; what is elected and told at last. -/
import Derived.Test.YtaibhhppdmncfaaCbR
namespace Go.Proofs.Ytaibhhppdmncfaa
open Go.RowKit Go.Maps

def untold (l : List Sl) : Nat := l.countP (fun x => !x.told)
theorem untold_told (l : List Sl) : untold l + toldN l = l.length := by
  have := List.length_eq_countP_add_countP (l := l) (fun x => x.told)
  unfold untold toldN
  have e : (fun x : Sl => decide ¬ (x.told = true)) = (fun x : Sl => !x.told) := by funext x; cases x.told <;> rfl
  rw [e] at this
  have e2 : List.countP Sl.told l = List.countP (fun x => x.told) l := rfl
  omega
theorem untold_append (a b : List Sl) : untold (a ++ b) = untold a + untold b := List.countP_append
theorem untold_cons (x : Sl) (l : List Sl) : untold (x :: l) = untold l + if x.told then 0 else 1 := by
  unfold untold
  rw [List.countP_cons]
  cases x.told <;> rfl
theorem untold_le (l : List Sl) : untold l ≤ l.length := List.countP_le_length
theorem ins_count (x : Sl) (l : List Sl) : untold (ins x l) = untold l + (if x.told then 0 else 1) ∧ (ins x l).length = l.length + 1 := by
  unfold ins
  have h := List.takeWhile_append_dropWhile (p := fun y : Sl => decide (y.core < x.core)) (l := l)
  constructor
  · rw [untold_append, untold_cons]
    have := congrArg untold h
    rw [untold_append] at this
    omega
  · have := congrArg List.length h
    rw [List.length_append] at this
    rw [List.length_append, List.length_cons]
    omega
theorem post_untold (s : Cb) (i : Int) (x : Cl) : (untold (s.post i x).l : Int) = untold s.l + (s.post i x).l.length - s.l.length := by
  unfold Cb.post
  split
  · have h := ins_count (newSl i.toNat x) s.l
    have e : (newSl i.toNat x).told = false := rfl
    rw [e] at h
    simp only [Bool.false_eq_true, if_false] at h
    show (untold (ins (newSl i.toNat x) s.l) : Int) = untold s.l + ((ins (newSl i.toNat x) s.l).length : Int) - s.l.length
    omega
  · omega
theorem post_batch (s : Cb) (i : Int) (x : Cl) : (s.post i x).batch = s.batch := by
  unfold Cb.post
  split <;> rfl
theorem untold_map {l : List Sl} {f : Sl → Sl} (h : ∀ x ∈ l, (f x).told = x.told) : untold (l.map f) = untold l := by
  unfold untold
  rw [List.countP_map]
  refine List.countP_congr (fun x hx => ?_)
  simp only [Function.comp_apply, h x hx]
theorem elect_untold (s : Cb) (i : Int) : untold (s.elect i).l = untold s.l := by
  unfold Cb.elect
  split
  · exact untold_map (fun x _ => rfl)
  · rfl
theorem tell_untold {i : Nat} {idx : Int} : ∀ {l : List Sl}, Srt l → (∃ x ∈ l, x.core = i ∧ x.told = false) → untold (l.map (Sl.tell i idx)) + 1 = untold l
  | [], _, ⟨x, hx, _⟩ => by cases hx
  | y :: l, hs, ⟨x, hx, hxi, hxt⟩ => by
    have h1 := List.pairwise_cons.1 hs
    rw [List.map_cons, untold_cons, untold_cons]
    rcases List.mem_cons.1 hx with rfl | hx
    · have e : untold (l.map (Sl.tell i idx)) = untold l := untold_map (fun z hz => by
        have := h1.1 z hz
        unfold Sl.tell
        rw [if_neg (by omega)])
      have e2 : (x.tell i idx).told = true := by unfold Sl.tell; rw [if_pos hxi]
      rw [e, e2, hxt]
      simp
    · have ih := tell_untold (i := i) (idx := idx) h1.2 ⟨x, hx, hxi, hxt⟩
      have hne : y.core ≠ i := by have := h1.1 x hx; omega
      have e2 : (y.tell i idx).told = y.told := by unfold Sl.tell; rw [if_neg hne]
      rw [e2]
      omega
theorem deliver_untold {s : Cb} (ok : s.ok) {idx : Int} (h0 : 0 ≤ idx) {i : Nat} {t : List Nat} (hb : s.batch = i :: t) : untold (s.deliver idx).l + 1 = untold s.l ∧ (s.deliver idx).batch = t := by
  unfold Cb.deliver
  rw [if_neg (by omega), hb]
  obtain ⟨x, hx, hxi, _, hxt⟩ := ok.bat i (by rw [hb]; exact List.mem_cons_self)
  exact ⟨tell_untold ok.srt ⟨x, hx, hxi, hxt⟩, rfl⟩
theorem deliver_none {s : Cb} {idx : Int} (h : idx < 0 ∨ s.batch = []) : s.deliver idx = s := by
  unfold Cb.deliver
  by_cases h0 : idx < 0
  · rw [if_pos h0]
  · rw [if_neg h0, h.resolve_left h0]
theorem done_untold {s : Cb} (ok : s.ok) (i : Int) : untold (s.done i).l = untold s.l ∧ (s.done i).batch = s.batch := by
  unfold Cb.done
  split
  · rename_i h
    obtain ⟨z, hz, hzi, hzt, _⟩ := toldAt_ex h
    refine ⟨?_, rfl⟩
    show untold (s.l.filter _) = untold s.l
    unfold untold
    rw [List.countP_filter]
    refine List.countP_congr (fun x hx => ?_)
    cases ht : x.told
    · have : ¬ ((x.core : Int) = i) := fun e => by
        have : x = z := srt_inj ok.srt hx hz (by omega)
        rw [this, hzt] at ht
        cases ht
      simp [this]
    · simp
  · exact ⟨rfl, rfl⟩
theorem release_same (s : Cb) (i : Int) : (s.release i).l = s.l ∧ (s.release i).batch = s.batch := by
  unfold Cb.release
  split <;> exact ⟨rfl, rfl⟩
theorem step_else {s : Cb} (ok : s.ok) (a : CAct) (h0 : a.do_ ≠ 0) (h1 : a.do_ ≠ 1) (h2 : a.do_ ≠ 2) : untold (s.step a).l = untold s.l ∧ (s.step a).batch = s.batch := by
  unfold Cb.step
  rw [if_neg h0, if_neg h1, if_neg h2]
  split
  · exact done_untold ok _
  · split
    · rw [(release_same s a.core).1]; exact ⟨rfl, (release_same s a.core).2⟩
    · exact ⟨rfl, rfl⟩
theorem elect_no {s : Cb} {i : Int} (h : s.canElect i = false) : s.elect i = s := by
  unfold Cb.elect
  rw [h]; rfl
theorem elect_yes {s : Cb} (ok : s.ok) {i : Int} (h : s.canElect i = true) : s.batch = [] ∧ (s.elect i).batch ≠ [] := by
  unfold Cb.elect
  rw [h]
  unfold Cb.canElect at h
  rw [Bool.and_eq_true, Bool.and_eq_true, Option.isNone_iff_eq_none] at h
  refine ⟨ok.free h.1.2, ?_⟩
  show fresh s.l ≠ []
  intro e
  rw [e] at h
  simp at h
theorem run_ok {s : Cb} (ok : s.ok) (l : List CAct) : (s.run l).ok := by
  induction l generalizing s with
  | nil => exact ok
  | cons a l ih => exact ih (Cb.step_ok ok a)
theorem nextV_form2 (s : Cb) : ∃ (a b c d e f g h i : Int), nextV s = .tuple #[.agg #[.int .i64 a, .int .i64 b, .int .i64 c, .int .i64 d, .int .i64 e, .int .i64 f, .int .i64 g, .int .i64 h, .int .i64 i], .bool (!s.batch.isEmpty)] ∧ ∀ j t, s.batch = j :: t → i = (j : Int) := by
  unfold nextV
  split
  · rename_i j t hb
    obtain ⟨y, hy⟩ : ∃ y, ((slotAt s.l j).getD default).x = y := ⟨_, rfl⟩
    refine ⟨y.kind, y.page, y.pages, y.perm, y.pk, y.pn, y.addr, y.byte, (j : Int), ?_, fun j' t' h => ?_⟩
    · rw [hb, hy]; rfl
    · rw [hb] at h
      injection h with h
      omega
  · rename_i hb
    refine ⟨0, 0, 0, 0, 0, 0, 0, 0, 0, ?_, fun j' t' h => ?_⟩
    · rw [hb]; rfl
    · rw [hb] at h; cases h
/-- How many of these slots are not told. -/
def cntOf (s : Cb) (pre : List Nat) : Nat := pre.countP (fun j => !(s.sl j).told)
theorem cntOf_snoc (s : Cb) (pre : List Nat) (x : Nat) : cntOf s (pre ++ [x]) = cntOf s pre + if (s.sl x).told then 0 else 1 := by
  unfold cntOf
  rw [List.countP_append, List.countP_singleton]
  cases (s.sl x).told <;> rfl
theorem cntOf_all (s : Cb) : cntOf s (List.range s.l.length) = untold s.l := by
  have h : untold ((List.range s.l.length).map s.sl) = cntOf s (List.range s.l.length) := by
    unfold untold cntOf
    rw [List.countP_map]
    rfl
  rw [← h, range_sl]
theorem cntOf_le (s : Cb) (pre : List Nat) : cntOf s pre ≤ pre.length := List.countP_le_length
end Go.Proofs.Ytaibhhppdmncfaa
