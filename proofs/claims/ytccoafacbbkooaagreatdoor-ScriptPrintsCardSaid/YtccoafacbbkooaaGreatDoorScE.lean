/- Script: the reader: policy. -/
import Derived.Test.YtccoafacbbkooaaGreatDoorScD
namespace Go.Proofs.YtccoafacbbkooaaGreatDoor
open Go.RowKit

theorem But.alloc {b : Nat} {w0 w : World} (h : But b w0 w) (o : Obj) : But b w0 (w.alloc o) := Only.alloc h o
theorem Blk.keep {w w' : World} {b g : Nat} {t t' : TypeId} {cs cs' : Array Value} (h : Blk w g t cs) (hb : Blk w b t' cs') (ht : t ≠ t') (ho : But b w w') : Blk w' g t cs :=
  h.only ho (fun e => (h.ne_ hb ht) e)
theorem rdr_blk {w : World} {b : Nat} {r : Rd} (h : RdrAt w b r) : ∃ q, Blk w b 51 #[q, .bool r.bad] := by
  obtain ⟨q, hb, _⟩ := h
  exact ⟨q, hb⟩
theorem RdrAt.new {w : World} {b : Nat} {r : Rd} (h : RdrAt w b r) (o : Obj) : RdrAt (w.alloc o) b r := h.below ((Below.refl _ _).alloc (Nat.le_refl _) o)
theorem Blk.new2 {w : World} {g : Nat} {t : TypeId} {cs : Array Value} (h : Blk w g t cs) (o : Obj) : Blk (w.alloc o) g t cs := h.below ((Below.refl _ _).alloc (Nat.le_refl _) o) h.lt
theorem Blk.keepR {w w' : World} {b g : Nat} {r : Rd} {t : TypeId} {cs : Array Value} (h : Blk w g t cs) (hr : RdrAt w b r) (ho : But b w w') (ht : t ≠ 51 := by decide) : Blk w' g t cs := by
  obtain ⟨q, hb⟩ := rdr_blk hr
  exact h.keep hb ht ho
theorem RdrAt.row {w : World} {b g : Nat} {r : Rd} {t : TypeId} {cs : Array Value} (h : RdrAt w b r) (hg : Blk w g t cs) (c : Array Value) (h1 : t ≠ 51 := by decide) (h2 : t ≠ 9 := by decide) : RdrAt (w.setRow g c) b r :=
  h.beside hg h1 h2 ((Only.refl (· = g) w).setRow (.inl rfl) c)
theorem RdrAt.cel {w : World} {b g : Nat} {r : Rd} {t : TypeId} {cs : Array Value} (h : RdrAt w b r) (hg : Blk w g t cs) (i : Nat) (v : Value) (h1 : t ≠ 51 := by decide) (h2 : t ≠ 9 := by decide) : RdrAt (w.setCell ⟨g, i, none⟩ v) b r :=
  h.beside hg h1 h2 ((Only.refl (· = g) w).setCell (.inl rfl) v)
theorem Blk.setOther {w : World} {g k : Nat} {t : TypeId} {cs : Array Value} (h : Blk w g t cs) (i : Nat) (v : Value) (hk : k ≠ g) : Blk (w.setCell ⟨k, i, none⟩ v) g t cs :=
  h.only ((Only.refl (· = k) w).setCell (.inl rfl) v) (fun e => hk e.symm)
theorem Blk.rowOther {w : World} {g k : Nat} {t : TypeId} {cs : Array Value} (h : Blk w g t cs) (c : Array Value) (hk : k ≠ g) : Blk (w.setRow k c) g t cs :=
  h.only ((Only.refl (· = k) w).setRow (.inl rfl) c) (fun e => hk e.symm)

set_option maxRecDepth 100000 in
set_option maxHeartbeats 4000000 in
theorem policy_at (w : World) (b : Nat) (r : Rd) (h : RdrAt w b r) : Calls Tryz.prog 55 #[.pointer (some ⟨b, 0, none⟩)] w fun e w' => e = .returned (polV r.policy.1) ∧ RdrAt w' b r.policy.2 ∧ But b w w' := by
  have hlt := h.lt
  have P0 : Blk (w.alloc (.cells #[.int .i64 0, .int .i64 0] 23)) w.heap.size 23 #[.int .i64 0, .int .i64 0] := Blk.new _ _ _
  have R0 := h.new (.cells #[.int .i64 0, .int .i64 0] 23)
  have hw := word_at _ b r R0
  obtain ⟨x, hx⟩ : ∃ x, r.word.1 = x := ⟨_, rfl⟩
  obtain ⟨r1, hr1⟩ : ∃ r1, r.word.2 = r1 := ⟨_, rfl⟩
  have hn : r.policy = match kindV x with | some k => if k = 0 then ((0, 0), r1) else ((k, r1.number.1), r1.number.2) | none => ((0, 0), { r1 with bad := true }) := by
    unfold Rd.policy
    rw [hx, hr1]
    cases kindV x <;> rfl
  rw [hn]
  rw [hx, hr1] at hw
  obtain ⟨s, hs⟩ : ∃ s, bs x = s := ⟨_, rfl⟩
  have htl : s.toList = x := by rw [← hs]; exact bs_toList x
  rw [hs] at hw
  have HW := Lib.hid hw
  have HR := Lib.hid R0
  have HP := Lib.hid P0
  have O0 : But b w (w.alloc (.cells #[.int .i64 0, .int .i64 0] 23)) := (Only.refl (· = b) w).alloc _
  have HO := Lib.hid O0
  unfold kindV
  clear hn hx hr1 h hw hs R0 P0 O0
  by_cases h1 : x = kLocal
  · subst h1
    rw [if_pos rfl]
    go_enter Tryz.func55, Tryz.ntmps55
    go_wp2_with (first
      | (go_at_call 35; refine (HW.out).mono ?_; rintro e w1 ⟨rfl, R1, O1⟩; have P1 := HP.out.keepR HR.out O1; have kr := P1.rowOf; have kp := P1.plain; have kl := P1.lt; have kl1 := Nat.lt_succ_of_lt kl; have kl2 := Nat.lt_succ_of_lt kl1; have ne1 : ¬ w.heap.size = w1.heap.size + 1 := Nat.ne_of_lt kl1; have HP1 := Lib.hid P1; have HO1 := Lib.hid (HO.out.trans O1); have HR1 := Lib.hid R1; have hl1 := R1.lt; clear R1 O1 P1)
      | (go_at_call 59; refine (kinds_w _).mono ?_; rintro e w2 ⟨rfl, rfl⟩)
      | (refine wp_loop_rounds 5 ?_; rw [rounds_succ])
      | rw [rounds_succ])
    refine bodyPost_ret (results_cell1 rfl _ _ rfl (run_loadVar_blk _ _ _ 23 23 #[.int .i64 0, .int .i64 0] _ 2 (((HP1.out.new2 _).new2 _).row_ _) Tryz.underlying23 rfl (by kernel_rfl) (by simp))) rfl ?_
    exact ⟨rfl, ((HR1.out.new _).new _).row ((HP1.out.new2 _).new2 _) _, ((HO1.out.alloc _).alloc _).setRow (.inr (Nat.le_refl _)) _⟩
  · rw [if_neg h1]
    by_cases h2 : x = kBind
    · subst h2
      rw [if_pos rfl]
      go_enter Tryz.func55, Tryz.ntmps55
      go_wp2_with (first
        | (go_at_call 35; refine (HW.out).mono ?_; rintro e w1 ⟨rfl, R1, O1⟩; have P1 := HP.out.keepR HR.out O1; have kr := P1.rowOf; have kp := P1.plain; have kl := P1.lt; have kl1 := Nat.lt_succ_of_lt kl; have kl2 := Nat.lt_succ_of_lt kl1; have ne1 : ¬ w.heap.size = w1.heap.size + 1 := Nat.ne_of_lt kl1; have HP1 := Lib.hid P1; have HO1 := Lib.hid (HO.out.trans O1); have HR1 := Lib.hid R1; have hl1 := R1.lt; clear R1 O1 P1)
        | (go_at_call 59; refine (kinds_w _).mono ?_; rintro e w2 ⟨rfl, rfl⟩)
        | (go_at_call 38; have R2 := (HR1.out.new (.cells ksA 9)).new (.cells #[.int .i64 1, .int .i64 0] 23); refine (number_at _ b _ R2).mono ?_; rintro e w3 ⟨rfl, R3, O3⟩; have P3 := ((HP1.out.new2 (.cells ksA 9)).new2 (.cells #[.int .i64 1, .int .i64 0] 23)).keepR R2 O3; have Q3 := (Blk.new (w1.alloc (.cells ksA 9)) 23 #[.int .i64 1, .int .i64 0]).keepR R2 O3; rw [World.size_alloc] at Q3; have kr2 := P3.rowOf; have kp2 := P3.plain; have kl3 := P3.lt; have qr := Q3.rowOf; have qp := Q3.plain; have qc := Q3.cell 1; have qf := Q3.frozen 1; have HP3 := Lib.hid P3; have HQ3 := Lib.hid Q3; have HR3 := Lib.hid R3; have HO3 := Lib.hid O3; clear R2 R3 O3 P3 Q3)
        | (refine wp_loop_rounds 5 ?_; rw [rounds_succ])
        | rw [rounds_succ])
      refine bodyPost_ret (results_cell1 rfl _ _ rfl (run_loadVar_blk _ _ _ 23 23 #[.int .i64 1, .int .i64 r1.number.1] _ 2 ((HP3.out.setOther 1 _ (Ne.symm ne1)).row_ _) Tryz.underlying23 rfl (by kernel_rfl) (by simp))) rfl ?_
      exact ⟨rfl, (HR3.out.cel HQ3.out 1 _).row (HP3.out.setOther 1 _ (Ne.symm ne1)) _, ((((HO1.out.alloc _).alloc _).trans HO3.out).setCell (p := ⟨w1.heap.size + 1, 1, none⟩) (.inr (Nat.le_of_lt kl1)) _).setRow (.inr (Nat.le_refl _)) _⟩
    · rw [if_neg h2]
      by_cases h3 : x = kPrefer
      · subst h3
        rw [if_pos rfl]
        go_enter Tryz.func55, Tryz.ntmps55
        go_wp2_with (first
          | (go_at_call 35; refine (HW.out).mono ?_; rintro e w1 ⟨rfl, R1, O1⟩; have P1 := HP.out.keepR HR.out O1; have kr := P1.rowOf; have kp := P1.plain; have kl := P1.lt; have kl1 := Nat.lt_succ_of_lt kl; have kl2 := Nat.lt_succ_of_lt kl1; have ne1 : ¬ w.heap.size = w1.heap.size + 1 := Nat.ne_of_lt kl1; have HP1 := Lib.hid P1; have HO1 := Lib.hid (HO.out.trans O1); have HR1 := Lib.hid R1; have hl1 := R1.lt; clear R1 O1 P1)
          | (go_at_call 59; refine (kinds_w _).mono ?_; rintro e w2 ⟨rfl, rfl⟩)
          | (go_at_call 38; have R2 := (HR1.out.new (.cells ksA 9)).new (.cells #[.int .i64 2, .int .i64 0] 23); refine (number_at _ b _ R2).mono ?_; rintro e w3 ⟨rfl, R3, O3⟩; have P3 := ((HP1.out.new2 (.cells ksA 9)).new2 (.cells #[.int .i64 2, .int .i64 0] 23)).keepR R2 O3; have Q3 := (Blk.new (w1.alloc (.cells ksA 9)) 23 #[.int .i64 2, .int .i64 0]).keepR R2 O3; rw [World.size_alloc] at Q3; have kr2 := P3.rowOf; have kp2 := P3.plain; have kl3 := P3.lt; have qr := Q3.rowOf; have qp := Q3.plain; have qc := Q3.cell 1; have qf := Q3.frozen 1; have HP3 := Lib.hid P3; have HQ3 := Lib.hid Q3; have HR3 := Lib.hid R3; have HO3 := Lib.hid O3; clear R2 R3 O3 P3 Q3)
          | (refine wp_loop_rounds 5 ?_; rw [rounds_succ])
          | rw [rounds_succ])
        refine bodyPost_ret (results_cell1 rfl _ _ rfl (run_loadVar_blk _ _ _ 23 23 #[.int .i64 2, .int .i64 r1.number.1] _ 2 ((HP3.out.setOther 1 _ (Ne.symm ne1)).row_ _) Tryz.underlying23 rfl (by kernel_rfl) (by simp))) rfl ?_
        exact ⟨rfl, (HR3.out.cel HQ3.out 1 _).row (HP3.out.setOther 1 _ (Ne.symm ne1)) _, ((((HO1.out.alloc _).alloc _).trans HO3.out).setCell (p := ⟨w1.heap.size + 1, 1, none⟩) (.inr (Nat.le_of_lt kl1)) _).setRow (.inr (Nat.le_refl _)) _⟩
      · rw [if_neg h3]
        by_cases h4 : x = kMix
        · subst h4
          rw [if_pos rfl]
          go_enter Tryz.func55, Tryz.ntmps55
          go_wp2_with (first
            | (go_at_call 35; refine (HW.out).mono ?_; rintro e w1 ⟨rfl, R1, O1⟩; have P1 := HP.out.keepR HR.out O1; have kr := P1.rowOf; have kp := P1.plain; have kl := P1.lt; have kl1 := Nat.lt_succ_of_lt kl; have kl2 := Nat.lt_succ_of_lt kl1; have ne1 : ¬ w.heap.size = w1.heap.size + 1 := Nat.ne_of_lt kl1; have HP1 := Lib.hid P1; have HO1 := Lib.hid (HO.out.trans O1); have HR1 := Lib.hid R1; have hl1 := R1.lt; clear R1 O1 P1)
            | (go_at_call 59; refine (kinds_w _).mono ?_; rintro e w2 ⟨rfl, rfl⟩)
            | (go_at_call 38; have R2 := (HR1.out.new (.cells ksA 9)).new (.cells #[.int .i64 3, .int .i64 0] 23); refine (number_at _ b _ R2).mono ?_; rintro e w3 ⟨rfl, R3, O3⟩; have P3 := ((HP1.out.new2 (.cells ksA 9)).new2 (.cells #[.int .i64 3, .int .i64 0] 23)).keepR R2 O3; have Q3 := (Blk.new (w1.alloc (.cells ksA 9)) 23 #[.int .i64 3, .int .i64 0]).keepR R2 O3; rw [World.size_alloc] at Q3; have kr2 := P3.rowOf; have kp2 := P3.plain; have kl3 := P3.lt; have qr := Q3.rowOf; have qp := Q3.plain; have qc := Q3.cell 1; have qf := Q3.frozen 1; have HP3 := Lib.hid P3; have HQ3 := Lib.hid Q3; have HR3 := Lib.hid R3; have HO3 := Lib.hid O3; clear R2 R3 O3 P3 Q3)
            | (refine wp_loop_rounds 5 ?_; rw [rounds_succ])
            | rw [rounds_succ])
          refine bodyPost_ret (results_cell1 rfl _ _ rfl (run_loadVar_blk _ _ _ 23 23 #[.int .i64 3, .int .i64 r1.number.1] _ 2 ((HP3.out.setOther 1 _ (Ne.symm ne1)).row_ _) Tryz.underlying23 rfl (by kernel_rfl) (by simp))) rfl ?_
          exact ⟨rfl, (HR3.out.cel HQ3.out 1 _).row (HP3.out.setOther 1 _ (Ne.symm ne1)) _, ((((HO1.out.alloc _).alloc _).trans HO3.out).setCell (p := ⟨w1.heap.size + 1, 1, none⟩) (.inr (Nat.le_of_lt kl1)) _).setRow (.inr (Nat.le_refl _)) _⟩
        · rw [if_neg h4]
          have g1 : (x == [108, 111, 99, 97, 108]) = false := by simpa using h1
          have g1' : ([108, 111, 99, 97, 108] == x) = false := by simpa using Ne.symm h1
          have g2 : (x == [98, 105, 110, 100]) = false := by simpa using h2
          have g2' : ([98, 105, 110, 100] == x) = false := by simpa using Ne.symm h2
          have g3 : (x == [112, 114, 101, 102, 101, 114]) = false := by simpa using h3
          have g3' : ([112, 114, 101, 102, 101, 114] == x) = false := by simpa using Ne.symm h3
          have g4 : (x == [109, 105, 120]) = false := by simpa using h4
          have g4' : ([109, 105, 120] == x) = false := by simpa using Ne.symm h4
          go_enter Tryz.func55, Tryz.ntmps55
          go_wp2_with (first
            | (go_at_call 35; refine (HW.out).mono ?_; rintro e w1 ⟨rfl, R1, O1⟩; have P1 := HP.out.keepR HR.out O1; have kr := P1.rowOf; have kp := P1.plain; have kl := P1.lt; have kl1 := Nat.lt_succ_of_lt kl; have hR1 := R1; obtain ⟨q1, hb1, _⟩ := hR1; have d1 := hb1.cell 1; have f1 := hb1.frozen 1; have hl2 := hb1.lt; have hl3 := Nat.lt_succ_of_lt hl2; have ne2 : ¬ w.heap.size = b := (fun e => (by omega)); have HP1 := Lib.hid P1; have HO1 := Lib.hid (HO.out.trans O1); have HR1 := Lib.hid R1; clear R1 O1 P1 hb1)
            | (go_at_call 59; refine (kinds_w _).mono ?_; rintro e w2 ⟨rfl, rfl⟩)
            | (refine wp_loop_rounds 5 ?_; rw [rounds_succ])
            | rw [rounds_succ])
          refine bodyPost_ret (results_cell1 rfl _ _ rfl (run_loadVar_blk _ _ _ 23 23 #[.int .i64 0, .int .i64 0] _ 2 (((HP1.out.setOther 1 _ (Ne.symm ne2)).new2 _).row_ _) Tryz.underlying23 rfl (by kernel_rfl) (by simp))) rfl ?_
          exact ⟨rfl, ((HR1.out.setBad true).new _).row ((HP1.out.setOther 1 _ (Ne.symm ne2)).new2 _) _, ((HO1.out.setCell (p := ⟨b, 1, none⟩) (.inl rfl) _).alloc _).setRow (.inr (Nat.le_refl _)) _⟩
end Go.Proofs.YtccoafacbbkooaaGreatDoor
