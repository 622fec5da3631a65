/- Script: the reader: how it lies in memory; word, number, perm. -/
import Derived.Test.YtccoafacbbkooaaGreatDoorScB
namespace Go.Proofs.YtccoafacbbkooaaGreatDoor
open Go.RowKit

/-- What lay in w lies as it lay, but for block b. -/
abbrev But (b : Nat) (w w' : World) : Prop := Only (· = b) w w'
/-- Words, to read. -/
def StrAt (w : World) (q : Value) (ws : List Wd) : Prop :=
  ∃ a c, q = .slice a ws.length c ∧ ws.length ≤ c ∧ ((a = none ∧ ws = []) ∨ ∃ g off cs, a = some ⟨g, off, none⟩ ∧ Blk w g 9 cs ∧ off + ws.length ≤ cs.size ∧ ∀ (j : Nat) (x : Wd), ws[j]? = some x → cs[off + j]? = some (.string (bs x)))
theorem StrAt.only {w w' : World} {q : Value} {ws : List Wd} {S : Nat → Prop} (h : StrAt w q ws) (ho : Only S w w') (hS : ∀ g cs, Blk w g 9 cs → ¬ S g) : StrAt w' q ws := by
  obtain ⟨a, c, h1, h2, h3⟩ := h
  refine ⟨a, c, h1, h2, h3.imp id ?_⟩
  rintro ⟨g, off, cs, e1, e2, e3⟩
  exact ⟨g, off, cs, e1, e2.only ho (hS g cs e2), e3⟩
theorem StrAt.below {w w' : World} {q : Value} {ws : List Wd} (h : StrAt w q ws) (hb : Below w.heap.size w w') : StrAt w' q ws :=
  h.only (S := fun _ => False) (Only.of_below hb) (fun _ _ _ h => h)
theorem StrAt.head {w : World} {q : Value} {x : Wd} {ws : List Wd} (h : StrAt w q (x :: ws)) :
    ∃ g off c q', q = .slice (some ⟨g, off, none⟩) (ws.length + 1) c ∧ ws.length + 1 ≤ c ∧ w.cell? ⟨g, off, none⟩ = some (.string (bs x)) ∧ g < w.heap.size ∧ StrAt w q' ws ∧
      (∀ W, (Instr.slice 48 q (some (.int .i64 1)) none none).run Tryz.prog W = .ok q' W) ∧ ∃ a' n' c', q' = .slice a' n' c' := by
  obtain ⟨a, c, h1, h2, h3⟩ := h
  rcases h3 with ⟨_, h3⟩ | ⟨g, off, cs, rfl, e2, e3, e4⟩
  · cases h3
  · rw [List.length_cons] at h1 h2 e3
    have hsz : ∀ W, (sizeOf (Tryz.prog.elem 48)).run Tryz.prog W = .ok 1 W := fun W => by kernel_rfl
    have hc0 : w.cell? ⟨g, off, none⟩ = some (.string (bs x)) := by rw [e2.cell]; exact e4 0 x rfl
    by_cases hc : c = 1
    · refine ⟨g, off, c, .slice (some ⟨g, off, none⟩) ws.length 0, h1, h2, hc0, e2.lt, ⟨_, 0, rfl, by omega, .inr ⟨g, off, cs, rfl, e2, by omega, fun j y hj => ?_⟩⟩, fun W => ?_, ⟨_, _, _, rfl⟩⟩
      · have := (List.getElem?_eq_some_iff.1 hj).1
        omega
      · rw [h1, run_slice_l (P := Tryz.prog) (w := W) 48 (some ⟨g, off, none⟩) (ws.length + 1) c (by kernel_rfl) .i64 1 (by omega) (by omega), hsz]
        simp [Result.andThen, sliced, hc]
    · refine ⟨g, off, c, .slice (some ⟨g, off + 1, none⟩) ws.length (c - 1), h1, h2, hc0, e2.lt, ⟨_, c - 1, rfl, by omega, .inr ⟨g, off + 1, cs, rfl, e2, by omega, fun j y hj => ?_⟩⟩, fun W => ?_, ⟨_, _, _, rfl⟩⟩
      · have := e4 (j + 1) y (by simpa using hj)
        rw [← this]
        congr 1
        omega
      · rw [h1, run_slice_l (P := Tryz.prog) (w := W) 48 (some ⟨g, off, none⟩) (ws.length + 1) c (by kernel_rfl) .i64 1 (by omega) (by omega), hsz]
        have hc' : ¬ (1 = c) := fun e => hc e.symm
        simp [Result.andThen, sliced, hc, Addr.add]
/-- A reader in block b. -/
def RdrAt (w : World) (b : Nat) (r : Rd) : Prop := ∃ q, Blk w b 51 #[q, .bool r.bad] ∧ StrAt w q r.ws
theorem RdrAt.lt {w : World} {b : Nat} {r : Rd} (h : RdrAt w b r) : b < w.heap.size := by
  obtain ⟨q, hb, _⟩ := h
  exact hb.lt
theorem RdrAt.below {w w' : World} {b : Nat} {r : Rd} (h : RdrAt w b r) (hb : Below w.heap.size w w') : RdrAt w' b r := by
  obtain ⟨q, h1, h2⟩ := h
  exact ⟨q, h1.below hb h1.lt, h2.below hb⟩
theorem RdrAt.setBad {w : World} {b : Nat} {r : Rd} (h : RdrAt w b r) (x : Bool) : RdrAt (w.setCell ⟨b, 1, none⟩ (.bool x)) b { r with bad := x } := by
  obtain ⟨q, h1, h2⟩ := h
  have ho : But b w (w.setCell ⟨b, 1, none⟩ (.bool x)) := (Only.refl (· = b) w).setCell (p := ⟨b, 1, none⟩) (.inl rfl) _
  exact ⟨q, h1.set_ 1 _, h2.only ho (fun g cs hg e => (hg.ne_ h1 (by decide)) e)⟩

theorem word_at (w : World) (b : Nat) (r : Rd) (h : RdrAt w b r) : Calls Tryz.prog 35 #[.pointer (some ⟨b, 0, none⟩)] w fun e w' => e = .returned (.string (bs r.word.1)) ∧ RdrAt w' b r.word.2 ∧ But b w w' := by
  have HH := Lib.hid h
  obtain ⟨q, hb, hq⟩ := h
  have hlt := hb.lt
  have c1 : w.cell? ⟨b, 1, none⟩ = some (.bool r.bad) := hb.cell 1
  have f0 : w.frozen? ⟨b, 0, none⟩ = false := hb.frozen 0
  have f1 : w.frozen? ⟨b, 1, none⟩ = false := hb.frozen 1
  have c0 : w.cell? ⟨b, 0, none⟩ = some q := hb.cell 0
  obtain ⟨ws, bad⟩ := r
  cases ws with
  | nil =>
    obtain ⟨a, c, rfl, _⟩ := hq
    have e1 : Rd.word ⟨[], bad⟩ = ([], ⟨[], true⟩) := rfl
    rw [e1]
    clear hb e1
    go_enter Tryz.func35, Tryz.ntmps35
    go_wp2_with fail
    go_ret
    exact ⟨rfl, HH.out.setBad true, (Only.refl (· = b) w).setCell (p := ⟨b, 1, none⟩) (.inl rfl) _⟩
  | cons x t =>
    obtain ⟨g, off, c, q', rfl, hc, hx, hg, hq', hsl, a', n', c', rfl⟩ := hq.head
    have e1 : Rd.word ⟨x :: t, bad⟩ = (x, ⟨t, bad⟩) := rfl
    rw [e1]
    have HB := Lib.hid hb
    have HQ := Lib.hid hq'
    clear hb e1 hq hq'
    go_enter Tryz.func35, Tryz.ntmps35
    go_wp2_with fail
    go_ret
    have ho : But b w (w.setCell ⟨b, 0, none⟩ (.slice a' n' c')) := (Only.refl (· = b) w).setCell (p := ⟨b, 0, none⟩) (.inl rfl) _
    exact ⟨rfl, ⟨_, HB.out.set_ 0 _, HQ.out.only ho (fun g cs hg e => (hg.ne_ HB.out (by decide)) e)⟩, ho⟩
theorem number_at (w : World) (b : Nat) (r : Rd) (h : RdrAt w b r) : Calls Tryz.prog 38 #[.pointer (some ⟨b, 0, none⟩)] w fun e w' => e = .returned (.int .i64 r.number.1) ∧ RdrAt w' b r.number.2 ∧ But b w w' := by
  have HW := Lib.hid (word_at w b r h)
  have HN := Lib.hid (number_w r.word.1)
  have hlt := h.lt
  obtain ⟨x, hx⟩ : ∃ x, r.word.1 = x := ⟨_, rfl⟩
  obtain ⟨r1, hr1⟩ : ∃ r1, r.word.2 = r1 := ⟨_, rfl⟩
  have hn : r.number = (numI x, { r1 with bad := r1.bad || !(numL x).isSome }) := by
    unfold Rd.number numI
    rw [hx, hr1]
    cases numL x with
    | some n => simp
    | none => simp
  rw [hn]
  rw [hx] at HN
  rw [hx, hr1] at HW
  obtain ⟨ok, hok⟩ : ∃ ok, (numL x).isSome = ok := ⟨_, rfl⟩
  rw [hok] at HN ⊢
  obtain ⟨ws, bad⟩ := r1
  clear hn hx hr1 h hok
  cases bad
  all_goals
    cases ok
    all_goals
      go_enter Tryz.func38, Tryz.ntmps38
      go_wp2_with (first
        | (go_at_call 35; refine (HW.out).mono ?_; rintro e w1 ⟨rfl, R1, O1⟩)
        | (go_at_call 36; refine (HN.out _).mono ?_; rintro e w2 ⟨rfl, B2⟩; have R2 := R1.below B2; have hR2 := R2; obtain ⟨q2, hb2, _⟩ := hR2; have d1 := hb2.cell 1; have f1 := hb2.frozen 1; have hl2 := hb2.lt; have HR2 := Lib.hid R2; clear R2 hb2))
      go_ret
      exact ⟨rfl, HR2.out.setBad _, (O1.trans (Only.of_below B2)).setCell (p := ⟨b, 1, none⟩) (.inl rfl) _⟩
theorem perm_at (w : World) (b : Nat) (r : Rd) (h : RdrAt w b r) : Calls Tryz.prog 54 #[.pointer (some ⟨b, 0, none⟩)] w fun e w' => e = .returned (.int .i64 r.perm.1) ∧ RdrAt w' b r.perm.2 ∧ But b w w' := by
  have hw := word_at w b r h
  have hlt := h.lt
  obtain ⟨x, hx⟩ : ∃ x, r.word.1 = x := ⟨_, rfl⟩
  obtain ⟨r1, hr1⟩ : ∃ r1, r.word.2 = r1 := ⟨_, rfl⟩
  have hn : r.perm = match permV x with | some p => (p, r1) | none => (0, { r1 with bad := true }) := by
    unfold Rd.perm
    rw [hx, hr1]
    cases permV x <;> rfl
  rw [hn]
  rw [hx, hr1] at hw
  obtain ⟨s, hs⟩ : ∃ s, bs x = s := ⟨_, rfl⟩
  have htl : s.toList = x := by rw [← hs]; exact bs_toList x
  rw [hs] at hw
  have HW := Lib.hid hw
  unfold permV
  clear hn hx hr1 h hw hs
  by_cases h1 : x = [45]
  · subst h1
    rw [if_pos rfl]
    go_enter Tryz.func54, Tryz.ntmps54
    go_wp2_with (go_at_call 35; refine (HW.out).mono ?_; rintro e w1 ⟨rfl, R1, O1⟩)
    go_ret
    exact ⟨rfl, R1, O1⟩
  · rw [if_neg h1]
    by_cases h2 : x = [114]
    · subst h2
      rw [if_pos rfl]
      go_enter Tryz.func54, Tryz.ntmps54
      go_wp2_with (go_at_call 35; refine (HW.out).mono ?_; rintro e w1 ⟨rfl, R1, O1⟩)
      go_ret
      exact ⟨rfl, R1, O1⟩
    · rw [if_neg h2]
      by_cases h3 : x = [114, 119]
      · subst h3
        rw [if_pos rfl]
        go_enter Tryz.func54, Tryz.ntmps54
        go_wp2_with (go_at_call 35; refine (HW.out).mono ?_; rintro e w1 ⟨rfl, R1, O1⟩)
        go_ret
        exact ⟨rfl, R1, O1⟩
      · rw [if_neg h3]
        have g1 : (x == [45]) = false := by simpa using h1
        have g2 : (x == [114]) = false := by simpa using h2
        have g3 : (x == [114, 119]) = false := by simpa using h3
        go_enter Tryz.func54, Tryz.ntmps54
        go_wp2_with (go_at_call 35; refine (HW.out).mono ?_; rintro e w1 ⟨rfl, R1, O1⟩; have hR1 := R1; obtain ⟨q2, hb2, _⟩ := hR1; have d1 := hb2.cell 1; have f1 := hb2.frozen 1; have hl2 := hb2.lt; have HR1 := Lib.hid R1; clear R1 hb2)
        go_ret
        exact ⟨rfl, HR1.out.setBad true, O1.setCell (p := ⟨b, 1, none⟩) (.inl rfl) _⟩
end Go.Proofs.YtccoafacbbkooaaGreatDoor
