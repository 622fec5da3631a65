/- Shoot: Play: an act in both; made. -/
import Derived.Test.YtfekllnalacggaaShG
namespace Go.Proofs.Ytfekllnalacggaa
open Go.RowKit
attribute [local go_sem ↓] ld35 st35
attribute [local go_sem] run_ld35 run_st35

theorem post_sh (w : World) (b e : Nat) (s : Sh) (f t : Int) (h : ShAt w b e s) (hn : s.l.length + 1 ≤ maxLen) (hby : (s.l.length + 1) * 24 ≤ 140737488355328) :
    Calls Try.prog 15 #[.pointer (some ⟨b, 0, none⟩), .int .i64 f, .int .i64 t] w fun r w' => r = .returned (s.postV f t) ∧ ShAt w' b e (s.post f t) ∧ Only (fun k => k = b ∨ k = e) w w' := by
  unfold Sh.postV Sh.post
  by_cases hc : Sh.can f t
  · rw [if_pos hc, if_pos hc]
    exact post_yes w b e s f t h hc hn hby
  · rw [if_neg hc, if_neg hc]
    refine (post_no w b _ _ _ _ f t h.ok.c1 h.hb hc).mono ?_
    rintro r w' ⟨rfl, rfl⟩
    exact ⟨rfl, h, Only.refl _ _⟩

/-- An act. -/
structure SAct where
  post : Bool
  f : Int
  t : Int
  core : Int
def SAct.cells (a : SAct) : Array Value := #[.bool a.post, .int .i64 a.f, .int .i64 a.t, .int .i64 a.core]
def SAct.val (a : SAct) : Value := .agg a.cells
def Sh.step (s : Sh) (a : SAct) : Sh := if a.post then s.post a.f a.t else s.hand a.core
theorem Sh.post_len (s : Sh) (f t : Int) : (s.post f t).l.length ≤ s.l.length + 1 := by unfold Sh.post; split <;> simp
theorem Sh.hand_l (s : Sh) (i : Int) : (s.hand i).l = s.l := by unfold Sh.hand; split <;> rfl
theorem Sh.step_len (s : Sh) (a : SAct) : (s.step a).l.length ≤ s.l.length + 1 := by
  unfold Sh.step
  split
  · exact Sh.post_len s _ _
  · rw [Sh.hand_l]; omega

/-- Both, each in blocks of its own from n0 on. -/
structure St (w : World) (n0 base b e br ed : Nat) (s : Sh) : Prop where
  S : ShAt w b e s
  R : ∃ v, RefAt w base br ed v s
  n0b : n0 ≤ b
  n0e : n0 ≤ e
  n0r : n0 ≤ br
  n0d : n0 ≤ ed
  n0z : n0 ≤ base
  hz : base ≤ w.heap.size
theorem ShAt.cs {w : World} {b e : Nat} {s : Sh} (h : ShAt w b e s) : ∃ cs, Blk w e 58 cs := by obtain ⟨_, _, cs, hc, _⟩ := h; exact ⟨cs, hc⟩
/-- The reference's own cells are none of the shoot's. -/
theorem ShAt.kept {w w' : World} {base b e br ed : Nat} {v : Value} {s s' : Sh} (h : ShAt w b e s) (hr : RefAt w base br ed v s') (ho : Only (fun j => j = br ∨ j = ed ∨ v.ownBlock = some j) w w') : ShAt w' b e s := by
  obtain ⟨cs, hc⟩ := h.cs
  have key : ∀ g t cur, Blk w g t cur → t ≠ 31 → t ≠ 3 → t ≠ 35 → ¬ (g = br ∨ g = ed ∨ v.ownBlock = some g) := by
    rintro g t cur hg h1 h2 h3 (h | h | h)
    · exact hg.ne_ hr.hb h1 h
    · exact hg.ne_ hr.hd h2 h
    · exact own_blk_ne hr.hv hg (Ne.symm h3) h
  exact h.only ho (key b 46 _ h.hb (by decide) (by decide) (by decide)) (key e 58 cs hc (by decide) (by decide) (by decide)) (fun g cur hg => key g 61 cur hg (by decide) (by decide) (by decide))
theorem RefAt.kept {w w' : World} {base b e br ed : Nat} {v : Value} {s s' : Sh} (h : RefAt w base br ed v s) (hs : ShAt w b e s') (ho : Only (fun j => j = b ∨ j = e) w w') : RefAt w' base br ed v s := by
  obtain ⟨cs, hc⟩ := hs.cs
  refine h.only ho (fun hh => ?_) (fun hh => ?_) (fun k hk hh => ?_)
  · rcases hh with hh | hh
    · exact h.hb.ne_ hs.hb (by decide) hh
    · exact h.hb.ne_ hc (by decide) hh
  · rcases hh with hh | hh
    · exact h.hd.ne_ hs.hb (by decide) hh
    · exact h.hd.ne_ hc (by decide) hh
  · rcases hh with rfl | rfl
    · exact own_blk_ne h.hv hs.hb (by decide) hk
    · exact own_blk_ne h.hv hc (by decide) hk
theorem RefAt.base_le {w : World} {base b ed : Nat} {v : Value} {s : Sh} (h : RefAt w base b ed v s) : ∀ k, v.ownBlock = some k → base ≤ k := fun k hk => (h.hv.lt k hk).1
theorem St.below {w w' : World} {n0 base b e br ed : Nat} {s : Sh} (h : St w n0 base b e br ed s) (hb : Below w.heap.size w w') : St w' n0 base b e br ed s := by
  obtain ⟨S, ⟨v, R⟩, h1, h2, h3, h4, h5, h6⟩ := h
  exact ⟨S.below hb, ⟨v, R.below hb⟩, h1, h2, h3, h4, h5, Nat.le_trans h6 hb.size⟩

set_option maxHeartbeats 1000000 in
theorem play_post (w : World) (n0 base b e br ed : Nat) (s : Sh) (a : SAct) (h : St w n0 base b e br ed s) (ha : a.post = true) (hn : (s.l.length + 1) * 24 ≤ 140737488355328) :
    Calls Try.prog 12 #[.pointer (some ⟨b, 0, none⟩), .pointer (some ⟨br, 0, none⟩), a.val] w fun r w' => r = .returned (.bool true) ∧ St w' n0 base b e br ed (s.post a.f a.t) ∧ Below n0 w w' := by
  obtain ⟨S, ⟨v, R⟩, h1, h2, h3, h4, h5, h6⟩ := h
  obtain ⟨p, f, t, core⟩ := a
  obtain rfl : p = true := ha
  simp only [SAct.val, SAct.cells]
  have hm : s.l.length + 1 ≤ maxLen := by unfold maxLen; omega
  have S1 : ShAt (w.alloc (.cells #[.bool true, .int .i64 f, .int .i64 t, .int .i64 core] 41)) b e s := S.below ((Below.refl _ _).alloc (Nat.le_refl _) _)
  have R1 : RefAt (w.alloc (.cells #[.bool true, .int .i64 f, .int .i64 t, .int .i64 core] 41)) base br ed v s := R.below ((Below.refl _ _).alloc (Nat.le_refl _) _)
  have hx : Blk (w.alloc (.cells #[.bool true, .int .i64 f, .int .i64 t, .int .i64 core] 41)) w.heap.size 41 #[.bool true, .int .i64 f, .int .i64 t, .int .i64 core] := Blk.new _ _ _
  have hbl := S.hb.lt
  have hel := S.e_lt
  have hS1 := Lib.hid S1
  have hR1 := Lib.hid R1
  have hX := Lib.hid hx
  clear S R S1 R1 hx
  obtain ⟨pv, hpv⟩ : ∃ pv, s.postV f t = pv := ⟨_, rfl⟩
  obtain ⟨g, er, rfl⟩ : ∃ g er, pv = .tuple #[.int .i64 g, .int .i64 er] := by
    subst hpv; unfold Sh.postV; split
    · exact ⟨_, _, rfl⟩
    · exact ⟨_, _, rfl⟩
  have HPV := Lib.hid hpv
  clear hpv
  go_enter Try.func12, Try.ntmps12
  go_wp2_with fail
  refine (post_sh _ _ _ _ _ _ hS1.out hm hn).mono ?_
  rintro r w1 ⟨rfl, S2, O2⟩
  rw [HPV.out]
  have hX2 : Blk w1 w.heap.size 41 #[.bool true, .int .i64 f, .int .i64 t, .int .i64 core] := hX.out.only O2 (by omega)
  have x1 : w1.cell? ⟨w.heap.size, 1, none⟩ = some (.int .i64 f) := hX2.cell 1
  have x2 : w1.cell? ⟨w.heap.size, 2, none⟩ = some (.int .i64 t) := hX2.cell 2
  have R2 := hR1.out.kept hS1.out O2
  have hsz := O2.size
  simp at hsz
  clear hX2
  go_wp2_with fail
  refine (rPost _ _ _ _ _ _ _ _ R2 (by omega) hm (by omega)).mono ?_
  rintro r w2 ⟨rfl, v', R3, O3⟩
  rw [HPV.out]
  have O3' : Only (fun j => j = br ∨ j = ed ∨ v.ownBlock = some j) w1 w2 := O3.mono (fun k hk => hk.elim .inl (fun h => .inr (.inr h)))
  have S3 := S2.kept R2 O3'
  go_wp2_with fail
  go_ret
  refine ⟨rfl, ⟨S3, ⟨v', R3⟩, h1, h2, h3, h4, h5, ?_⟩, ?_⟩
  · have := O3.size; omega
  · have O1 : Only (fun k => n0 ≤ k) w w1 := (((Only.refl _ w).alloc _)).trans (O2.mono (fun k hk => by rcases hk with rfl | rfl <;> assumption))
    refine (O1.trans (O3.mono (fun k hk => ?_))).below (by omega) (fun k hk => hk)
    rcases hk with rfl | hk
    · exact h3
    · have := R2.base_le k hk; omega

set_option maxHeartbeats 1000000 in
theorem play_hand (w : World) (n0 base b e br ed : Nat) (s : Sh) (a : SAct) (h : St w n0 base b e br ed s) (ha : a.post = false) (hn : (s.l.length + 1) * 24 ≤ 140737488355328) :
    Calls Try.prog 12 #[.pointer (some ⟨b, 0, none⟩), .pointer (some ⟨br, 0, none⟩), a.val] w fun r w' => r = .returned (.bool true) ∧ St w' n0 base b e br ed (s.hand a.core) ∧ Below n0 w w' := by
  obtain ⟨S, ⟨v, R⟩, h1, h2, h3, h4, h5, h6⟩ := h
  obtain ⟨p, f, t, core⟩ := a
  obtain rfl : p = false := ha
  simp only [SAct.val, SAct.cells]
  have S1 : ShAt (w.alloc (.cells #[.bool false, .int .i64 f, .int .i64 t, .int .i64 core] 41)) b e s := S.below ((Below.refl _ _).alloc (Nat.le_refl _) _)
  have R1 : RefAt (w.alloc (.cells #[.bool false, .int .i64 f, .int .i64 t, .int .i64 core] 41)) base br ed v s := R.below ((Below.refl _ _).alloc (Nat.le_refl _) _)
  have hx : Blk (w.alloc (.cells #[.bool false, .int .i64 f, .int .i64 t, .int .i64 core] 41)) w.heap.size 41 #[.bool false, .int .i64 f, .int .i64 t, .int .i64 core] := Blk.new _ _ _
  have hbl := S.hb.lt
  have hel := S.e_lt
  have hS1 := Lib.hid S1
  have hR1 := Lib.hid R1
  have hX := Lib.hid hx
  clear S R S1 R1 hx
  obtain ⟨pv, hpv⟩ : ∃ pv, handV (s.next core) = pv := ⟨_, rfl⟩
  obtain ⟨g, er, ok, rfl⟩ : ∃ g er ok, pv = .tuple #[.int .i64 g, .int .i64 er, .bool ok] := by
    subst hpv
    cases s.next core with
    | none => exact ⟨_, _, _, rfl⟩
    | some x => exact ⟨_, _, _, rfl⟩
  have HPV := Lib.hid hpv
  clear hpv
  go_enter Try.func12, Try.ntmps12
  go_wp2_with fail
  refine (handle_sh _ _ _ _ _ hS1.out).mono ?_
  rintro r w1 ⟨rfl, S2, O2⟩
  rw [HPV.out]
  have hX2 : Blk w1 w.heap.size 41 #[.bool false, .int .i64 f, .int .i64 t, .int .i64 core] := hX.out.only O2 (by omega)
  have x3 : w1.cell? ⟨w.heap.size, 3, none⟩ = some (.int .i64 core) := hX2.cell 3
  have O2' : Only (fun j => j = b ∨ j = e) _ w1 := O2.mono (fun k hk => .inr hk)
  have R2 := hR1.out.kept hS1.out O2'
  have hsz := O2.size
  simp at hsz
  clear hX2
  go_wp2_with fail
  refine (rHandle _ _ _ _ _ _ _ R2 (by omega)).mono ?_
  rintro r w2 ⟨rfl, R3, O3⟩
  rw [HPV.out]
  have O3' : Only (fun j => j = br ∨ j = ed ∨ v.ownBlock = some j) w1 w2 := O3.mono (fun k hk => .inr (.inl hk))
  have S3 := S2.kept R2 O3'
  cases ok
  all_goals
    go_wp2_with fail
    go_ret
    refine ⟨rfl, ⟨S3, ⟨v, R3⟩, h1, h2, h3, h4, h5, ?_⟩, ?_⟩
    · have := O3.size; omega
    · have O1 : Only (fun k => n0 ≤ k) w w1 := (((Only.refl _ w).alloc _)).trans (O2.mono (fun k hk => by rcases hk with rfl; assumption))
      refine (O1.trans (O3.mono (fun k hk => ?_))).below (by omega) (fun k hk => hk)
      rcases hk with rfl
      exact h4
theorem play_st (w : World) (n0 base b e br ed : Nat) (s : Sh) (a : SAct) (h : St w n0 base b e br ed s) (hn : (s.l.length + 1) * 24 ≤ 140737488355328) :
    Calls Try.prog 12 #[.pointer (some ⟨b, 0, none⟩), .pointer (some ⟨br, 0, none⟩), a.val] w fun r w' => r = .returned (.bool true) ∧ St w' n0 base b e br ed (s.step a) ∧ Below n0 w w' := by
  cases ha : a.post with
  | true =>
    have e1 : s.step a = s.post a.f a.t := by unfold Sh.step; rw [ha]; rfl
    rw [e1]
    exact play_post w n0 base b e br ed s a h ha hn
  | false =>
    have e1 : s.step a = s.hand a.core := by unfold Sh.step; rw [ha]; rfl
    rw [e1]
    exact play_hand w n0 base b e br ed s a h ha hn
end Go.Proofs.Ytfekllnalacggaa
