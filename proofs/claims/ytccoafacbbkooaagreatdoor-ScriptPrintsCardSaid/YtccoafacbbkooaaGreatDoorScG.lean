/- Script: the reader: job, item. Printed by mkScG.py. -/
import Derived.Test.YtccoafacbbkooaaGreatDoorScF
namespace Go.Proofs.YtccoafacbbkooaaGreatDoor
open Go.RowKit
@[go_sem] theorem bd29_0 (w : World) : (Instr.build 29 #[]).run Tryz.prog w = .ok (.agg #[.int .i64 0, .int .i64 0, .int .i64 0, .int .i64 0, .int .i64 0, .int .i64 0, .int .i64 0, .int .i64 0, .int .i64 0, .int .i64 0, .int .i64 0, .int .i64 0, .int .i64 0, .int .i64 0]) w := by kernel_rfl
@[go_sem] theorem bd29_01 (w : World) (k p : Int) : (Instr.build 29 #[(0, .int .i64 k), (1, .int .i64 p)]).run Tryz.prog w = .ok (.agg #[.int .i64 k, .int .i64 p, .int .i64 0, .int .i64 0, .int .i64 0, .int .i64 0, .int .i64 0, .int .i64 0, .int .i64 0, .int .i64 0, .int .i64 0, .int .i64 0, .int .i64 0, .int .i64 0]) w := by kernel_rfl
@[go_sem] theorem bd29_014 (w : World) (k p q : Int) : (Instr.build 29 #[(0, .int .i64 k), (1, .int .i64 p), (4, .int .i64 q)]).run Tryz.prog w = .ok (.agg #[.int .i64 k, .int .i64 p, .int .i64 0, .int .i64 0, .int .i64 0, .int .i64 0, .int .i64 0, .int .i64 0, .int .i64 0, .int .i64 0, .int .i64 0, .int .i64 0, .int .i64 0, .int .i64 q]) w := by kernel_rfl
@[go_sem] theorem bd29_04 (w : World) (k q : Int) : (Instr.build 29 #[(0, .int .i64 k), (4, .int .i64 q)]).run Tryz.prog w = .ok (.agg #[.int .i64 k, .int .i64 0, .int .i64 0, .int .i64 0, .int .i64 0, .int .i64 0, .int .i64 0, .int .i64 0, .int .i64 0, .int .i64 0, .int .i64 0, .int .i64 0, .int .i64 0, .int .i64 q]) w := by kernel_rfl
@[go_sem] theorem bd29_call (w : World) (k p a0 a1 a2 a3 a4 a5 a6 a7 : Int) : (Instr.build 29 #[(0, .int .i64 k), (1, .int .i64 p), (2, .agg #[.int .i64 a0, .int .i64 a1, .int .i64 a2, .int .i64 a3, .int .i64 a4, .int .i64 a5, .int .i64 a6, .int .i64 a7])]).run Tryz.prog w = .ok (.agg #[.int .i64 k, .int .i64 p, .int .i64 a0, .int .i64 a1, .int .i64 a2, .int .i64 a3, .int .i64 a4, .int .i64 a5, .int .i64 a6, .int .i64 a7, .int .i64 0, .int .i64 0, .int .i64 0, .int .i64 0]) w := by kernel_rfl

set_option maxRecDepth 100000 in
set_option maxHeartbeats 4000000 in
theorem job_two (w : World) (b : Nat) (r : Rd) (h : RdrAt w b r)  :
    Calls Tryz.prog 39 #[.pointer (some ⟨b, 0, none⟩), .int .i64 2] w fun e w' => e = .returned (.agg (r.job 2).1.arr) ∧ RdrAt w' b (r.job 2).2 ∧ But b w w' := by
  have hlt := h.lt
  have e1 : r.job 2 = ({ i0 with kind := 3, who := r.number.1, jk := 2, jp := r.number.2.number.1 }, r.number.2.number.2) := by unfold Rd.job; rw [if_pos rfl]
  rw [e1]
  have P : Blk (w.alloc (.cells #[.int .i64 0, .int .i64 0, .int .i64 0, .int .i64 0, .int .i64 0, .int .i64 0, .int .i64 0, .int .i64 0, .int .i64 0, .int .i64 0, .int .i64 0, .int .i64 0, .int .i64 0, .int .i64 0] 29)) w.heap.size 29 #[.int .i64 0, .int .i64 0, .int .i64 0, .int .i64 0, .int .i64 0, .int .i64 0, .int .i64 0, .int .i64 0, .int .i64 0, .int .i64 0, .int .i64 0, .int .i64 0, .int .i64 0, .int .i64 0] := Blk.new _ _ _
  have R := h.new (.cells #[.int .i64 0, .int .i64 0, .int .i64 0, .int .i64 0, .int .i64 0, .int .i64 0, .int .i64 0, .int .i64 0, .int .i64 0, .int .i64 0, .int .i64 0, .int .i64 0, .int .i64 0, .int .i64 0] 29)
  have O : But b w (w.alloc (.cells #[.int .i64 0, .int .i64 0, .int .i64 0, .int .i64 0, .int .i64 0, .int .i64 0, .int .i64 0, .int .i64 0, .int .i64 0, .int .i64 0, .int .i64 0, .int .i64 0, .int .i64 0, .int .i64 0] 29)) := (Only.refl (· = b) w).alloc _
  have HP0 := Lib.hid P
  have HR0 := Lib.hid R
  have HO0 := Lib.hid O
  clear h P R O e1
  go_enter Tryz.func39, Tryz.ntmps39
  go_wp2_with (first
    | (go_at_call 38; refine (number_at _ b _ HR0.out).mono ?_; rintro e w1 ⟨rfl, R, O⟩; have P : Blk w1 w.heap.size 29 #[.int .i64 0, .int .i64 0, .int .i64 0, .int .i64 0, .int .i64 0, .int .i64 0, .int .i64 0, .int .i64 0, .int .i64 0, .int .i64 0, .int .i64 0, .int .i64 0, .int .i64 0, .int .i64 0] := HP0.out.keepR HR0.out O; have kr1 := P.rowOf; have kp1 := P.plain; have kl1 := P.lt; have kl1' := Nat.lt_succ_of_lt kl1; have ne1 : ¬ w.heap.size = w1.heap.size := Nat.ne_of_lt kl1; have HP1 := Lib.hid P; have HR1 := Lib.hid R; have HO1 := Lib.hid (HO0.out.trans O); clear P R O)
    | (go_at_call 38; refine (number_at _ b _ (HR1.out.new (.cells #[.int .i64 3, .int .i64 (r.number.1), .int .i64 0, .int .i64 0, .int .i64 0, .int .i64 0, .int .i64 0, .int .i64 0, .int .i64 0, .int .i64 0, .int .i64 0, .int .i64 0, .int .i64 0, .int .i64 0] 29))).mono ?_; rintro e w2 ⟨rfl, R, O⟩; have P : Blk w2 w.heap.size 29 #[.int .i64 0, .int .i64 0, .int .i64 0, .int .i64 0, .int .i64 0, .int .i64 0, .int .i64 0, .int .i64 0, .int .i64 0, .int .i64 0, .int .i64 0, .int .i64 0, .int .i64 0, .int .i64 0] := (HP1.out.new2 _).keepR (HR1.out.new _) O; have Q : Blk w2 w1.heap.size 29 #[.int .i64 3, .int .i64 (r.number.1), .int .i64 0, .int .i64 0, .int .i64 0, .int .i64 0, .int .i64 0, .int .i64 0, .int .i64 0, .int .i64 0, .int .i64 0, .int .i64 0, .int .i64 0, .int .i64 0] := (Blk.new w1 29 _).keepR (HR1.out.new _) O; have kr2 := P.rowOf; have kp2 := P.plain; have kl2 := P.lt; have qr2 := Q.rowOf; have qp2 := Q.plain; have ql2 := Q.lt; have HP2 := Lib.hid P; have HQ2 := Lib.hid Q; have HR2 := Lib.hid R; have HO2 := Lib.hid ((HO1.out.alloc _).trans O); clear P Q R O))
  refine bodyPost_ret (results_cell1 rfl _ _ rfl (run_loadVar_blk _ _ _ 29 29 (Itm.arr (({ i0 with kind := 3, who := r.number.1, jk := 2, jp := r.number.2.number.1 }, r.number.2.number.2)).1) _ 14 ((HP2.out.rowOther _ (Ne.symm ne1)).row_ _) Tryz.underlying29 rfl (by kernel_rfl) (by simp [Itm.arr]))) rfl ?_
  exact ⟨rfl, (HR2.out.row HQ2.out _).row (HP2.out.rowOther _ (Ne.symm ne1)) _, (HO2.out.setRow (g := w1.heap.size) (.inr (Nat.le_of_lt kl1)) _).setRow (.inr (Nat.le_refl _)) _⟩

set_option maxRecDepth 100000 in
set_option maxHeartbeats 4000000 in
theorem job_three (w : World) (b : Nat) (r : Rd) (k : Int) (h : RdrAt w b r) (hk : ¬ k = 2) :
    Calls Tryz.prog 39 #[.pointer (some ⟨b, 0, none⟩), .int .i64 k] w fun e w' => e = .returned (.agg (r.job k).1.arr) ∧ RdrAt w' b (r.job k).2 ∧ But b w w' := by
  have hlt := h.lt
  have e1 : r.job k = ({ { i0 with kind := 3, who := r.number.1, jk := k, jp := r.number.2.number.1 } with jn := r.number.2.number.2.number.1 }, r.number.2.number.2.number.2) := by unfold Rd.job; rw [if_neg hk]
  rw [e1]
  have P : Blk (w.alloc (.cells #[.int .i64 0, .int .i64 0, .int .i64 0, .int .i64 0, .int .i64 0, .int .i64 0, .int .i64 0, .int .i64 0, .int .i64 0, .int .i64 0, .int .i64 0, .int .i64 0, .int .i64 0, .int .i64 0] 29)) w.heap.size 29 #[.int .i64 0, .int .i64 0, .int .i64 0, .int .i64 0, .int .i64 0, .int .i64 0, .int .i64 0, .int .i64 0, .int .i64 0, .int .i64 0, .int .i64 0, .int .i64 0, .int .i64 0, .int .i64 0] := Blk.new _ _ _
  have R := h.new (.cells #[.int .i64 0, .int .i64 0, .int .i64 0, .int .i64 0, .int .i64 0, .int .i64 0, .int .i64 0, .int .i64 0, .int .i64 0, .int .i64 0, .int .i64 0, .int .i64 0, .int .i64 0, .int .i64 0] 29)
  have O : But b w (w.alloc (.cells #[.int .i64 0, .int .i64 0, .int .i64 0, .int .i64 0, .int .i64 0, .int .i64 0, .int .i64 0, .int .i64 0, .int .i64 0, .int .i64 0, .int .i64 0, .int .i64 0, .int .i64 0, .int .i64 0] 29)) := (Only.refl (· = b) w).alloc _
  have HP0 := Lib.hid P
  have HR0 := Lib.hid R
  have HO0 := Lib.hid O
  clear h P R O e1
  go_enter Tryz.func39, Tryz.ntmps39
  go_wp2_with (first
    | (go_at_call 38; refine (number_at _ b _ HR0.out).mono ?_; rintro e w1 ⟨rfl, R, O⟩; have P : Blk w1 w.heap.size 29 #[.int .i64 0, .int .i64 0, .int .i64 0, .int .i64 0, .int .i64 0, .int .i64 0, .int .i64 0, .int .i64 0, .int .i64 0, .int .i64 0, .int .i64 0, .int .i64 0, .int .i64 0, .int .i64 0] := HP0.out.keepR HR0.out O; have kr1 := P.rowOf; have kp1 := P.plain; have kl1 := P.lt; have kl1' := Nat.lt_succ_of_lt kl1; have ne1 : ¬ w.heap.size = w1.heap.size := Nat.ne_of_lt kl1; have HP1 := Lib.hid P; have HR1 := Lib.hid R; have HO1 := Lib.hid (HO0.out.trans O); clear P R O)
    | (go_at_call 38; refine (number_at _ b _ (HR1.out.new (.cells #[.int .i64 3, .int .i64 (r.number.1), .int .i64 0, .int .i64 0, .int .i64 0, .int .i64 0, .int .i64 0, .int .i64 0, .int .i64 0, .int .i64 0, .int .i64 0, .int .i64 0, .int .i64 0, .int .i64 0] 29))).mono ?_; rintro e w2 ⟨rfl, R, O⟩; have P : Blk w2 w.heap.size 29 #[.int .i64 0, .int .i64 0, .int .i64 0, .int .i64 0, .int .i64 0, .int .i64 0, .int .i64 0, .int .i64 0, .int .i64 0, .int .i64 0, .int .i64 0, .int .i64 0, .int .i64 0, .int .i64 0] := (HP1.out.new2 _).keepR (HR1.out.new _) O; have Q : Blk w2 w1.heap.size 29 #[.int .i64 3, .int .i64 (r.number.1), .int .i64 0, .int .i64 0, .int .i64 0, .int .i64 0, .int .i64 0, .int .i64 0, .int .i64 0, .int .i64 0, .int .i64 0, .int .i64 0, .int .i64 0, .int .i64 0] := (Blk.new w1 29 _).keepR (HR1.out.new _) O; have kr2 := P.rowOf; have kp2 := P.plain; have kl2 := P.lt; have qr2 := Q.rowOf; have qp2 := Q.plain; have ql2 := Q.lt; have HP2 := Lib.hid P; have HQ2 := Lib.hid Q; have HR2 := Lib.hid R; have HO2 := Lib.hid ((HO1.out.alloc _).trans O); clear P Q R O)
    | (go_at_call 38; refine (number_at _ b _ (HR2.out.row HQ2.out _)).mono ?_; rintro e w3 ⟨rfl, R, O⟩; have P : Blk w3 w.heap.size 29 #[.int .i64 0, .int .i64 0, .int .i64 0, .int .i64 0, .int .i64 0, .int .i64 0, .int .i64 0, .int .i64 0, .int .i64 0, .int .i64 0, .int .i64 0, .int .i64 0, .int .i64 0, .int .i64 0] := (HP2.out.rowOther _ (Ne.symm ne1)).keepR (HR2.out.row HQ2.out _) O; have Q : Blk w3 w1.heap.size 29 #[.int .i64 3, .int .i64 (r.number.1), .int .i64 0, .int .i64 0, .int .i64 0, .int .i64 0, .int .i64 0, .int .i64 0, .int .i64 0, .int .i64 0, .int .i64 k, .int .i64 (r.number.2.number.1), .int .i64 0, .int .i64 0] := (HQ2.out.row_ _).keepR (HR2.out.row HQ2.out _) O; have kr3 := P.rowOf; have kp3 := P.plain; have kl3 := P.lt; have qr3 := Q.rowOf; have qp3 := Q.plain; have ql3 := Q.lt; have qc3 : w3.cell? ⟨w1.heap.size, 12, none⟩ = some (.int .i64 0) := Q.cell 12; have qf3 := Q.frozen 12; have HP3 := Lib.hid P; have HQ3 := Lib.hid Q; have HR3 := Lib.hid R; have HO3 := Lib.hid ((HO2.out.setRow (g := w1.heap.size) (.inr (Nat.le_of_lt kl1)) _).trans O); clear P Q R O))
  refine bodyPost_ret (results_cell1 rfl _ _ rfl (run_loadVar_blk _ _ _ 29 29 (Itm.arr (({ { i0 with kind := 3, who := r.number.1, jk := k, jp := r.number.2.number.1 } with jn := r.number.2.number.2.number.1 }, r.number.2.number.2.number.2)).1) _ 14 ((HP3.out.setOther 12 _ (Ne.symm ne1)).row_ _) Tryz.underlying29 rfl (by kernel_rfl) (by simp [Itm.arr]))) rfl ?_
  exact ⟨rfl, (HR3.out.cel HQ3.out 12 _).row (HP3.out.setOther 12 _ (Ne.symm ne1)) _, (HO3.out.setCell (p := ⟨w1.heap.size, 12, none⟩) (.inr (Nat.le_of_lt kl1)) _).setRow (.inr (Nat.le_refl _)) _⟩

theorem job_at (w : World) (b : Nat) (r : Rd) (k : Int) (h : RdrAt w b r) :
    Calls Tryz.prog 39 #[.pointer (some ⟨b, 0, none⟩), .int .i64 k] w fun e w' => e = .returned (.agg (r.job k).1.arr) ∧ RdrAt w' b (r.job k).2 ∧ But b w w' := by
  by_cases hk : k = 2
  · subst hk; exact job_two w b r h
  · exact job_three w b r k h hk

set_option maxRecDepth 100000 in
set_option maxHeartbeats 4000000 in
theorem item_call (w : World) (b : Nat) (r r1 : Rd) (x : Wd) (h : RdrAt w b r) (hx : r.word.1 = x) (hr1 : r.word.2 = r1) (n : Nat) (hn : numL x = some n) :
    Calls Tryz.prog 18 #[.pointer (some ⟨b, 0, none⟩)] w fun e w' => e = .returned (.agg (Itm.arr ({ i0 with kind := 1, who := n, call := r1.call.1 }))) ∧ RdrAt w' b (r1.call.2) ∧ But b w w' := by
  have hlt := h.lt
  have n2 : ¬ w.heap.size = b := fun e => (by omega)
  have P : Blk (w.alloc (.cells #[.int .i64 0, .int .i64 0, .int .i64 0, .int .i64 0, .int .i64 0, .int .i64 0, .int .i64 0, .int .i64 0, .int .i64 0, .int .i64 0, .int .i64 0, .int .i64 0, .int .i64 0, .int .i64 0] 29)) w.heap.size 29 #[.int .i64 0, .int .i64 0, .int .i64 0, .int .i64 0, .int .i64 0, .int .i64 0, .int .i64 0, .int .i64 0, .int .i64 0, .int .i64 0, .int .i64 0, .int .i64 0, .int .i64 0, .int .i64 0] := Blk.new _ _ _
  have R := h.new (.cells #[.int .i64 0, .int .i64 0, .int .i64 0, .int .i64 0, .int .i64 0, .int .i64 0, .int .i64 0, .int .i64 0, .int .i64 0, .int .i64 0, .int .i64 0, .int .i64 0, .int .i64 0, .int .i64 0] 29)
  have O : But b w (w.alloc (.cells #[.int .i64 0, .int .i64 0, .int .i64 0, .int .i64 0, .int .i64 0, .int .i64 0, .int .i64 0, .int .i64 0, .int .i64 0, .int .i64 0, .int .i64 0, .int .i64 0, .int .i64 0, .int .i64 0] 29)) := (Only.refl (· = b) w).alloc _
  have hw := word_at _ b r R
  rw [hx, hr1] at hw
  have HN := Lib.hid (number_w x)
  rw [show numI x = (n : Int) from by unfold numI; rw [hn]; rfl, show (numL x).isSome = true from by rw [hn]; rfl] at HN
  obtain ⟨s, hs⟩ : ∃ s, bs x = s := ⟨_, rfl⟩
  have htl : s.toList = x := by rw [← hs]; exact bs_toList x
  rw [hs] at hw HN
  have HW := Lib.hid hw
  have HP0 := Lib.hid P
  have HR0 := Lib.hid R
  have HO0 := Lib.hid O
  clear hx hr1 h hw hs P R O
  go_enter Tryz.func18, Tryz.ntmps18
  go_wp2_with (first
    | (go_at_call 35; refine (HW.out).mono ?_; rintro e w1 ⟨rfl, R, O⟩; have P : Blk w1 w.heap.size 29 #[.int .i64 0, .int .i64 0, .int .i64 0, .int .i64 0, .int .i64 0, .int .i64 0, .int .i64 0, .int .i64 0, .int .i64 0, .int .i64 0, .int .i64 0, .int .i64 0, .int .i64 0, .int .i64 0] := HP0.out.keepR HR0.out O; have kr1 := P.rowOf; have kp1 := P.plain; have kl1 := P.lt; have HP1 := Lib.hid P; have HR1 := Lib.hid R; have HO1 := Lib.hid (HO0.out.trans O); clear P R O)
    | (go_at_call 36; refine (HN.out _).mono ?_; rintro e w2 ⟨rfl, B⟩; have R := HR1.out.below B; have O : But b w1 w2 := Only.of_below B; have P : Blk w2 w.heap.size 29 #[.int .i64 0, .int .i64 0, .int .i64 0, .int .i64 0, .int .i64 0, .int .i64 0, .int .i64 0, .int .i64 0, .int .i64 0, .int .i64 0, .int .i64 0, .int .i64 0, .int .i64 0, .int .i64 0] := HP1.out.keepR HR1.out O; have kr2 := P.rowOf; have kp2 := P.plain; have kl2 := P.lt; have HP2 := Lib.hid P; have HR2 := Lib.hid R; have HO2 := Lib.hid (HO1.out.trans O); clear P R O)
    | (go_at_call 37; refine (call_at _ b _ HR2.out).mono ?_; unfold Cl.arr; rintro e w3 ⟨rfl, R, O⟩; have P : Blk w3 w.heap.size 29 #[.int .i64 0, .int .i64 0, .int .i64 0, .int .i64 0, .int .i64 0, .int .i64 0, .int .i64 0, .int .i64 0, .int .i64 0, .int .i64 0, .int .i64 0, .int .i64 0, .int .i64 0, .int .i64 0] := HP2.out.keepR HR2.out O; have kr3 := P.rowOf; have kp3 := P.plain; have kl3 := P.lt; have HP3 := Lib.hid P; have HR3 := Lib.hid R; have HO3 := Lib.hid (HO2.out.trans O); clear P R O))
  refine bodyPost_ret (results_cell1 rfl _ _ rfl (run_loadVar_blk _ _ _ 29 29 (Itm.arr ({ i0 with kind := 1, who := n, call := r1.call.1 })) _ 14 (HP3.out.row_ _) Tryz.underlying29 rfl (by kernel_rfl) (by simp [Itm.arr]))) rfl ?_
  exact ⟨rfl, HR3.out.row HP3.out _, HO3.out.setRow (.inr (Nat.le_refl _)) _⟩

set_option maxRecDepth 100000 in
set_option maxHeartbeats 4000000 in
theorem item_core (w : World) (b : Nat) (r r1 : Rd) (x : Wd) (h : RdrAt w b r) (hx : r.word.1 = x) (hr1 : r.word.2 = r1) (hnone : numL x = none) (he : x = kCore) :
    Calls Tryz.prog 18 #[.pointer (some ⟨b, 0, none⟩)] w fun e w' => e = .returned (.agg (Itm.arr ({ i0 with kind := 2, who := r1.number.1 }))) ∧ RdrAt w' b (r1.number.2) ∧ But b w w' := by
  have hlt := h.lt
  have n2 : ¬ w.heap.size = b := fun e => (by omega)
  have P : Blk (w.alloc (.cells #[.int .i64 0, .int .i64 0, .int .i64 0, .int .i64 0, .int .i64 0, .int .i64 0, .int .i64 0, .int .i64 0, .int .i64 0, .int .i64 0, .int .i64 0, .int .i64 0, .int .i64 0, .int .i64 0] 29)) w.heap.size 29 #[.int .i64 0, .int .i64 0, .int .i64 0, .int .i64 0, .int .i64 0, .int .i64 0, .int .i64 0, .int .i64 0, .int .i64 0, .int .i64 0, .int .i64 0, .int .i64 0, .int .i64 0, .int .i64 0] := Blk.new _ _ _
  have R := h.new (.cells #[.int .i64 0, .int .i64 0, .int .i64 0, .int .i64 0, .int .i64 0, .int .i64 0, .int .i64 0, .int .i64 0, .int .i64 0, .int .i64 0, .int .i64 0, .int .i64 0, .int .i64 0, .int .i64 0] 29)
  have O : But b w (w.alloc (.cells #[.int .i64 0, .int .i64 0, .int .i64 0, .int .i64 0, .int .i64 0, .int .i64 0, .int .i64 0, .int .i64 0, .int .i64 0, .int .i64 0, .int .i64 0, .int .i64 0, .int .i64 0, .int .i64 0] 29)) := (Only.refl (· = b) w).alloc _
  have hw := word_at _ b r R
  rw [hx, hr1] at hw
  have HN := Lib.hid (number_w x)
  rw [show numI x = 0 from by unfold numI; rw [hnone]; rfl, show (numL x).isSome = false from by rw [hnone]; rfl] at HN
  obtain ⟨s, hs⟩ : ∃ s, bs x = s := ⟨_, rfl⟩
  have htl : s.toList = x := by rw [← hs]; exact bs_toList x
  rw [hs] at hw HN
  have HW := Lib.hid hw
  have HP0 := Lib.hid P
  have HR0 := Lib.hid R
  have HO0 := Lib.hid O
  clear hx hr1 h hw hs P R O
  subst he
  go_enter Tryz.func18, Tryz.ntmps18
  go_wp2_with (first
    | (go_at_call 35; refine (HW.out).mono ?_; rintro e w1 ⟨rfl, R, O⟩; have P : Blk w1 w.heap.size 29 #[.int .i64 0, .int .i64 0, .int .i64 0, .int .i64 0, .int .i64 0, .int .i64 0, .int .i64 0, .int .i64 0, .int .i64 0, .int .i64 0, .int .i64 0, .int .i64 0, .int .i64 0, .int .i64 0] := HP0.out.keepR HR0.out O; have kr1 := P.rowOf; have kp1 := P.plain; have kl1 := P.lt; have HP1 := Lib.hid P; have HR1 := Lib.hid R; have HO1 := Lib.hid (HO0.out.trans O); clear P R O)
    | (go_at_call 36; refine (HN.out _).mono ?_; rintro e w2 ⟨rfl, B⟩; have R := HR1.out.below B; have O : But b w1 w2 := Only.of_below B; have P : Blk w2 w.heap.size 29 #[.int .i64 0, .int .i64 0, .int .i64 0, .int .i64 0, .int .i64 0, .int .i64 0, .int .i64 0, .int .i64 0, .int .i64 0, .int .i64 0, .int .i64 0, .int .i64 0, .int .i64 0, .int .i64 0] := HP1.out.keepR HR1.out O; have kr2 := P.rowOf; have kp2 := P.plain; have kl2 := P.lt; have HP2 := Lib.hid P; have HR2 := Lib.hid R; have HO2 := Lib.hid (HO1.out.trans O); clear P R O)
    | (go_at_call 38; refine (number_at _ b _ HR2.out).mono ?_; rintro e w3 ⟨rfl, R, O⟩; have P : Blk w3 w.heap.size 29 #[.int .i64 0, .int .i64 0, .int .i64 0, .int .i64 0, .int .i64 0, .int .i64 0, .int .i64 0, .int .i64 0, .int .i64 0, .int .i64 0, .int .i64 0, .int .i64 0, .int .i64 0, .int .i64 0] := HP2.out.keepR HR2.out O; have kr3 := P.rowOf; have kp3 := P.plain; have kl3 := P.lt; have HP3 := Lib.hid P; have HR3 := Lib.hid R; have HO3 := Lib.hid (HO2.out.trans O); clear P R O))
  refine bodyPost_ret (results_cell1 rfl _ _ rfl (run_loadVar_blk _ _ _ 29 29 (Itm.arr ({ i0 with kind := 2, who := r1.number.1 })) _ 14 (HP3.out.row_ _) Tryz.underlying29 rfl (by kernel_rfl) (by simp [Itm.arr]))) rfl ?_
  exact ⟨rfl, HR3.out.row HP3.out _, HO3.out.setRow (.inr (Nat.le_refl _)) _⟩

set_option maxRecDepth 100000 in
set_option maxHeartbeats 4000000 in
theorem item_daemon (w : World) (b : Nat) (r r1 : Rd) (x : Wd) (h : RdrAt w b r) (hx : r.word.1 = x) (hr1 : r.word.2 = r1) (hnone : numL x = none) (he : x = kDaemon) :
    Calls Tryz.prog 18 #[.pointer (some ⟨b, 0, none⟩)] w fun e w' => e = .returned (.agg (Itm.arr ({ i0 with kind := 4, who := r1.number.1 }))) ∧ RdrAt w' b (r1.number.2) ∧ But b w w' := by
  have hlt := h.lt
  have n2 : ¬ w.heap.size = b := fun e => (by omega)
  have P : Blk (w.alloc (.cells #[.int .i64 0, .int .i64 0, .int .i64 0, .int .i64 0, .int .i64 0, .int .i64 0, .int .i64 0, .int .i64 0, .int .i64 0, .int .i64 0, .int .i64 0, .int .i64 0, .int .i64 0, .int .i64 0] 29)) w.heap.size 29 #[.int .i64 0, .int .i64 0, .int .i64 0, .int .i64 0, .int .i64 0, .int .i64 0, .int .i64 0, .int .i64 0, .int .i64 0, .int .i64 0, .int .i64 0, .int .i64 0, .int .i64 0, .int .i64 0] := Blk.new _ _ _
  have R := h.new (.cells #[.int .i64 0, .int .i64 0, .int .i64 0, .int .i64 0, .int .i64 0, .int .i64 0, .int .i64 0, .int .i64 0, .int .i64 0, .int .i64 0, .int .i64 0, .int .i64 0, .int .i64 0, .int .i64 0] 29)
  have O : But b w (w.alloc (.cells #[.int .i64 0, .int .i64 0, .int .i64 0, .int .i64 0, .int .i64 0, .int .i64 0, .int .i64 0, .int .i64 0, .int .i64 0, .int .i64 0, .int .i64 0, .int .i64 0, .int .i64 0, .int .i64 0] 29)) := (Only.refl (· = b) w).alloc _
  have hw := word_at _ b r R
  rw [hx, hr1] at hw
  have HN := Lib.hid (number_w x)
  rw [show numI x = 0 from by unfold numI; rw [hnone]; rfl, show (numL x).isSome = false from by rw [hnone]; rfl] at HN
  obtain ⟨s, hs⟩ : ∃ s, bs x = s := ⟨_, rfl⟩
  have htl : s.toList = x := by rw [← hs]; exact bs_toList x
  rw [hs] at hw HN
  have HW := Lib.hid hw
  have HP0 := Lib.hid P
  have HR0 := Lib.hid R
  have HO0 := Lib.hid O
  clear hx hr1 h hw hs P R O
  subst he
  go_enter Tryz.func18, Tryz.ntmps18
  go_wp2_with (first
    | (go_at_call 35; refine (HW.out).mono ?_; rintro e w1 ⟨rfl, R, O⟩; have P : Blk w1 w.heap.size 29 #[.int .i64 0, .int .i64 0, .int .i64 0, .int .i64 0, .int .i64 0, .int .i64 0, .int .i64 0, .int .i64 0, .int .i64 0, .int .i64 0, .int .i64 0, .int .i64 0, .int .i64 0, .int .i64 0] := HP0.out.keepR HR0.out O; have kr1 := P.rowOf; have kp1 := P.plain; have kl1 := P.lt; have HP1 := Lib.hid P; have HR1 := Lib.hid R; have HO1 := Lib.hid (HO0.out.trans O); clear P R O)
    | (go_at_call 36; refine (HN.out _).mono ?_; rintro e w2 ⟨rfl, B⟩; have R := HR1.out.below B; have O : But b w1 w2 := Only.of_below B; have P : Blk w2 w.heap.size 29 #[.int .i64 0, .int .i64 0, .int .i64 0, .int .i64 0, .int .i64 0, .int .i64 0, .int .i64 0, .int .i64 0, .int .i64 0, .int .i64 0, .int .i64 0, .int .i64 0, .int .i64 0, .int .i64 0] := HP1.out.keepR HR1.out O; have kr2 := P.rowOf; have kp2 := P.plain; have kl2 := P.lt; have HP2 := Lib.hid P; have HR2 := Lib.hid R; have HO2 := Lib.hid (HO1.out.trans O); clear P R O)
    | (go_at_call 38; refine (number_at _ b _ HR2.out).mono ?_; rintro e w3 ⟨rfl, R, O⟩; have P : Blk w3 w.heap.size 29 #[.int .i64 0, .int .i64 0, .int .i64 0, .int .i64 0, .int .i64 0, .int .i64 0, .int .i64 0, .int .i64 0, .int .i64 0, .int .i64 0, .int .i64 0, .int .i64 0, .int .i64 0, .int .i64 0] := HP2.out.keepR HR2.out O; have kr3 := P.rowOf; have kp3 := P.plain; have kl3 := P.lt; have HP3 := Lib.hid P; have HR3 := Lib.hid R; have HO3 := Lib.hid (HO2.out.trans O); clear P R O))
  refine bodyPost_ret (results_cell1 rfl _ _ rfl (run_loadVar_blk _ _ _ 29 29 (Itm.arr ({ i0 with kind := 4, who := r1.number.1 })) _ 14 (HP3.out.row_ _) Tryz.underlying29 rfl (by kernel_rfl) (by simp [Itm.arr]))) rfl ?_
  exact ⟨rfl, HR3.out.row HP3.out _, HO3.out.setRow (.inr (Nat.le_refl _)) _⟩

set_option maxRecDepth 100000 in
set_option maxHeartbeats 4000000 in
theorem item_evict (w : World) (b : Nat) (r r1 : Rd) (x : Wd) (h : RdrAt w b r) (hx : r.word.1 = x) (hr1 : r.word.2 = r1) (hnone : numL x = none) (he : x = kEvict) :
    Calls Tryz.prog 18 #[.pointer (some ⟨b, 0, none⟩)] w fun e w' => e = .returned (.agg (Itm.arr ({ i0 with kind := 5, who := r1.number.1, n := r1.number.2.number.1 }))) ∧ RdrAt w' b (r1.number.2.number.2) ∧ But b w w' := by
  have hlt := h.lt
  have n2 : ¬ w.heap.size = b := fun e => (by omega)
  have P : Blk (w.alloc (.cells #[.int .i64 0, .int .i64 0, .int .i64 0, .int .i64 0, .int .i64 0, .int .i64 0, .int .i64 0, .int .i64 0, .int .i64 0, .int .i64 0, .int .i64 0, .int .i64 0, .int .i64 0, .int .i64 0] 29)) w.heap.size 29 #[.int .i64 0, .int .i64 0, .int .i64 0, .int .i64 0, .int .i64 0, .int .i64 0, .int .i64 0, .int .i64 0, .int .i64 0, .int .i64 0, .int .i64 0, .int .i64 0, .int .i64 0, .int .i64 0] := Blk.new _ _ _
  have R := h.new (.cells #[.int .i64 0, .int .i64 0, .int .i64 0, .int .i64 0, .int .i64 0, .int .i64 0, .int .i64 0, .int .i64 0, .int .i64 0, .int .i64 0, .int .i64 0, .int .i64 0, .int .i64 0, .int .i64 0] 29)
  have O : But b w (w.alloc (.cells #[.int .i64 0, .int .i64 0, .int .i64 0, .int .i64 0, .int .i64 0, .int .i64 0, .int .i64 0, .int .i64 0, .int .i64 0, .int .i64 0, .int .i64 0, .int .i64 0, .int .i64 0, .int .i64 0] 29)) := (Only.refl (· = b) w).alloc _
  have hw := word_at _ b r R
  rw [hx, hr1] at hw
  have HN := Lib.hid (number_w x)
  rw [show numI x = 0 from by unfold numI; rw [hnone]; rfl, show (numL x).isSome = false from by rw [hnone]; rfl] at HN
  obtain ⟨s, hs⟩ : ∃ s, bs x = s := ⟨_, rfl⟩
  have htl : s.toList = x := by rw [← hs]; exact bs_toList x
  rw [hs] at hw HN
  have HW := Lib.hid hw
  have HP0 := Lib.hid P
  have HR0 := Lib.hid R
  have HO0 := Lib.hid O
  clear hx hr1 h hw hs P R O
  subst he
  go_enter Tryz.func18, Tryz.ntmps18
  go_wp2_with (first
    | (go_at_call 35; refine (HW.out).mono ?_; rintro e w1 ⟨rfl, R, O⟩; have P : Blk w1 w.heap.size 29 #[.int .i64 0, .int .i64 0, .int .i64 0, .int .i64 0, .int .i64 0, .int .i64 0, .int .i64 0, .int .i64 0, .int .i64 0, .int .i64 0, .int .i64 0, .int .i64 0, .int .i64 0, .int .i64 0] := HP0.out.keepR HR0.out O; have kr1 := P.rowOf; have kp1 := P.plain; have kl1 := P.lt; have HP1 := Lib.hid P; have HR1 := Lib.hid R; have HO1 := Lib.hid (HO0.out.trans O); clear P R O)
    | (go_at_call 36; refine (HN.out _).mono ?_; rintro e w2 ⟨rfl, B⟩; have R := HR1.out.below B; have O : But b w1 w2 := Only.of_below B; have P : Blk w2 w.heap.size 29 #[.int .i64 0, .int .i64 0, .int .i64 0, .int .i64 0, .int .i64 0, .int .i64 0, .int .i64 0, .int .i64 0, .int .i64 0, .int .i64 0, .int .i64 0, .int .i64 0, .int .i64 0, .int .i64 0] := HP1.out.keepR HR1.out O; have kr2 := P.rowOf; have kp2 := P.plain; have kl2 := P.lt; have HP2 := Lib.hid P; have HR2 := Lib.hid R; have HO2 := Lib.hid (HO1.out.trans O); clear P R O)
    | (go_at_call 38; refine (number_at _ b _ HR2.out).mono ?_; rintro e w3 ⟨rfl, R, O⟩; have P : Blk w3 w.heap.size 29 #[.int .i64 0, .int .i64 0, .int .i64 0, .int .i64 0, .int .i64 0, .int .i64 0, .int .i64 0, .int .i64 0, .int .i64 0, .int .i64 0, .int .i64 0, .int .i64 0, .int .i64 0, .int .i64 0] := HP2.out.keepR HR2.out O; have kr3 := P.rowOf; have kp3 := P.plain; have kl3 := P.lt; have HP3 := Lib.hid P; have HR3 := Lib.hid R; have HO3 := Lib.hid (HO2.out.trans O); clear P R O)
    | (go_at_call 38; refine (number_at _ b _ HR3.out).mono ?_; rintro e w4 ⟨rfl, R, O⟩; have P : Blk w4 w.heap.size 29 #[.int .i64 0, .int .i64 0, .int .i64 0, .int .i64 0, .int .i64 0, .int .i64 0, .int .i64 0, .int .i64 0, .int .i64 0, .int .i64 0, .int .i64 0, .int .i64 0, .int .i64 0, .int .i64 0] := HP3.out.keepR HR3.out O; have kr4 := P.rowOf; have kp4 := P.plain; have kl4 := P.lt; have HP4 := Lib.hid P; have HR4 := Lib.hid R; have HO4 := Lib.hid (HO3.out.trans O); clear P R O))
  refine bodyPost_ret (results_cell1 rfl _ _ rfl (run_loadVar_blk _ _ _ 29 29 (Itm.arr ({ i0 with kind := 5, who := r1.number.1, n := r1.number.2.number.1 })) _ 14 (HP4.out.row_ _) Tryz.underlying29 rfl (by kernel_rfl) (by simp [Itm.arr]))) rfl ?_
  exact ⟨rfl, HR4.out.row HP4.out _, HO4.out.setRow (.inr (Nat.le_refl _)) _⟩

set_option maxRecDepth 100000 in
set_option maxHeartbeats 4000000 in
theorem item_rounds (w : World) (b : Nat) (r r1 : Rd) (x : Wd) (h : RdrAt w b r) (hx : r.word.1 = x) (hr1 : r.word.2 = r1) (hnone : numL x = none) (he : x = kRounds) :
    Calls Tryz.prog 18 #[.pointer (some ⟨b, 0, none⟩)] w fun e w' => e = .returned (.agg (Itm.arr ({ i0 with kind := 6, n := r1.number.1 }))) ∧ RdrAt w' b (r1.number.2) ∧ But b w w' := by
  have hlt := h.lt
  have n2 : ¬ w.heap.size = b := fun e => (by omega)
  have P : Blk (w.alloc (.cells #[.int .i64 0, .int .i64 0, .int .i64 0, .int .i64 0, .int .i64 0, .int .i64 0, .int .i64 0, .int .i64 0, .int .i64 0, .int .i64 0, .int .i64 0, .int .i64 0, .int .i64 0, .int .i64 0] 29)) w.heap.size 29 #[.int .i64 0, .int .i64 0, .int .i64 0, .int .i64 0, .int .i64 0, .int .i64 0, .int .i64 0, .int .i64 0, .int .i64 0, .int .i64 0, .int .i64 0, .int .i64 0, .int .i64 0, .int .i64 0] := Blk.new _ _ _
  have R := h.new (.cells #[.int .i64 0, .int .i64 0, .int .i64 0, .int .i64 0, .int .i64 0, .int .i64 0, .int .i64 0, .int .i64 0, .int .i64 0, .int .i64 0, .int .i64 0, .int .i64 0, .int .i64 0, .int .i64 0] 29)
  have O : But b w (w.alloc (.cells #[.int .i64 0, .int .i64 0, .int .i64 0, .int .i64 0, .int .i64 0, .int .i64 0, .int .i64 0, .int .i64 0, .int .i64 0, .int .i64 0, .int .i64 0, .int .i64 0, .int .i64 0, .int .i64 0] 29)) := (Only.refl (· = b) w).alloc _
  have hw := word_at _ b r R
  rw [hx, hr1] at hw
  have HN := Lib.hid (number_w x)
  rw [show numI x = 0 from by unfold numI; rw [hnone]; rfl, show (numL x).isSome = false from by rw [hnone]; rfl] at HN
  obtain ⟨s, hs⟩ : ∃ s, bs x = s := ⟨_, rfl⟩
  have htl : s.toList = x := by rw [← hs]; exact bs_toList x
  rw [hs] at hw HN
  have HW := Lib.hid hw
  have HP0 := Lib.hid P
  have HR0 := Lib.hid R
  have HO0 := Lib.hid O
  clear hx hr1 h hw hs P R O
  subst he
  go_enter Tryz.func18, Tryz.ntmps18
  go_wp2_with (first
    | (go_at_call 35; refine (HW.out).mono ?_; rintro e w1 ⟨rfl, R, O⟩; have P : Blk w1 w.heap.size 29 #[.int .i64 0, .int .i64 0, .int .i64 0, .int .i64 0, .int .i64 0, .int .i64 0, .int .i64 0, .int .i64 0, .int .i64 0, .int .i64 0, .int .i64 0, .int .i64 0, .int .i64 0, .int .i64 0] := HP0.out.keepR HR0.out O; have kr1 := P.rowOf; have kp1 := P.plain; have kl1 := P.lt; have HP1 := Lib.hid P; have HR1 := Lib.hid R; have HO1 := Lib.hid (HO0.out.trans O); clear P R O)
    | (go_at_call 36; refine (HN.out _).mono ?_; rintro e w2 ⟨rfl, B⟩; have R := HR1.out.below B; have O : But b w1 w2 := Only.of_below B; have P : Blk w2 w.heap.size 29 #[.int .i64 0, .int .i64 0, .int .i64 0, .int .i64 0, .int .i64 0, .int .i64 0, .int .i64 0, .int .i64 0, .int .i64 0, .int .i64 0, .int .i64 0, .int .i64 0, .int .i64 0, .int .i64 0] := HP1.out.keepR HR1.out O; have kr2 := P.rowOf; have kp2 := P.plain; have kl2 := P.lt; have HP2 := Lib.hid P; have HR2 := Lib.hid R; have HO2 := Lib.hid (HO1.out.trans O); clear P R O)
    | (go_at_call 38; refine (number_at _ b _ HR2.out).mono ?_; rintro e w3 ⟨rfl, R, O⟩; have P : Blk w3 w.heap.size 29 #[.int .i64 0, .int .i64 0, .int .i64 0, .int .i64 0, .int .i64 0, .int .i64 0, .int .i64 0, .int .i64 0, .int .i64 0, .int .i64 0, .int .i64 0, .int .i64 0, .int .i64 0, .int .i64 0] := HP2.out.keepR HR2.out O; have kr3 := P.rowOf; have kp3 := P.plain; have kl3 := P.lt; have HP3 := Lib.hid P; have HR3 := Lib.hid R; have HO3 := Lib.hid (HO2.out.trans O); clear P R O))
  refine bodyPost_ret (results_cell1 rfl _ _ rfl (run_loadVar_blk _ _ _ 29 29 (Itm.arr ({ i0 with kind := 6, n := r1.number.1 })) _ 14 (HP3.out.row_ _) Tryz.underlying29 rfl (by kernel_rfl) (by simp [Itm.arr]))) rfl ?_
  exact ⟨rfl, HR3.out.row HP3.out _, HO3.out.setRow (.inr (Nat.le_refl _)) _⟩

set_option maxRecDepth 100000 in
set_option maxHeartbeats 4000000 in
theorem item_move (w : World) (b : Nat) (r r1 : Rd) (x : Wd) (h : RdrAt w b r) (hx : r.word.1 = x) (hr1 : r.word.2 = r1) (hnone : numL x = none) (he : x = kMove) :
    Calls Tryz.prog 18 #[.pointer (some ⟨b, 0, none⟩)] w fun e w' => e = .returned (.agg (Itm.arr ((r1.job 1).1))) ∧ RdrAt w' b ((r1.job 1).2) ∧ But b w w' := by
  have hlt := h.lt
  have n2 : ¬ w.heap.size = b := fun e => (by omega)
  have P : Blk (w.alloc (.cells #[.int .i64 0, .int .i64 0, .int .i64 0, .int .i64 0, .int .i64 0, .int .i64 0, .int .i64 0, .int .i64 0, .int .i64 0, .int .i64 0, .int .i64 0, .int .i64 0, .int .i64 0, .int .i64 0] 29)) w.heap.size 29 #[.int .i64 0, .int .i64 0, .int .i64 0, .int .i64 0, .int .i64 0, .int .i64 0, .int .i64 0, .int .i64 0, .int .i64 0, .int .i64 0, .int .i64 0, .int .i64 0, .int .i64 0, .int .i64 0] := Blk.new _ _ _
  have R := h.new (.cells #[.int .i64 0, .int .i64 0, .int .i64 0, .int .i64 0, .int .i64 0, .int .i64 0, .int .i64 0, .int .i64 0, .int .i64 0, .int .i64 0, .int .i64 0, .int .i64 0, .int .i64 0, .int .i64 0] 29)
  have O : But b w (w.alloc (.cells #[.int .i64 0, .int .i64 0, .int .i64 0, .int .i64 0, .int .i64 0, .int .i64 0, .int .i64 0, .int .i64 0, .int .i64 0, .int .i64 0, .int .i64 0, .int .i64 0, .int .i64 0, .int .i64 0] 29)) := (Only.refl (· = b) w).alloc _
  have hw := word_at _ b r R
  rw [hx, hr1] at hw
  have HN := Lib.hid (number_w x)
  rw [show numI x = 0 from by unfold numI; rw [hnone]; rfl, show (numL x).isSome = false from by rw [hnone]; rfl] at HN
  obtain ⟨s, hs⟩ : ∃ s, bs x = s := ⟨_, rfl⟩
  have htl : s.toList = x := by rw [← hs]; exact bs_toList x
  rw [hs] at hw HN
  have HW := Lib.hid hw
  have HP0 := Lib.hid P
  have HR0 := Lib.hid R
  have HO0 := Lib.hid O
  clear hx hr1 h hw hs P R O
  subst he
  go_enter Tryz.func18, Tryz.ntmps18
  go_wp2_with (first
    | (go_at_call 35; refine (HW.out).mono ?_; rintro e w1 ⟨rfl, R, O⟩; have P : Blk w1 w.heap.size 29 #[.int .i64 0, .int .i64 0, .int .i64 0, .int .i64 0, .int .i64 0, .int .i64 0, .int .i64 0, .int .i64 0, .int .i64 0, .int .i64 0, .int .i64 0, .int .i64 0, .int .i64 0, .int .i64 0] := HP0.out.keepR HR0.out O; have kr1 := P.rowOf; have kp1 := P.plain; have kl1 := P.lt; have HP1 := Lib.hid P; have HR1 := Lib.hid R; have HO1 := Lib.hid (HO0.out.trans O); clear P R O)
    | (go_at_call 36; refine (HN.out _).mono ?_; rintro e w2 ⟨rfl, B⟩; have R := HR1.out.below B; have O : But b w1 w2 := Only.of_below B; have P : Blk w2 w.heap.size 29 #[.int .i64 0, .int .i64 0, .int .i64 0, .int .i64 0, .int .i64 0, .int .i64 0, .int .i64 0, .int .i64 0, .int .i64 0, .int .i64 0, .int .i64 0, .int .i64 0, .int .i64 0, .int .i64 0] := HP1.out.keepR HR1.out O; have kr2 := P.rowOf; have kp2 := P.plain; have kl2 := P.lt; have HP2 := Lib.hid P; have HR2 := Lib.hid R; have HO2 := Lib.hid (HO1.out.trans O); clear P R O)
    | (go_at_call 39; refine (job_at _ b _ 1 HR2.out).mono ?_; unfold Itm.arr; rintro e w3 ⟨rfl, R, O⟩; have P : Blk w3 w.heap.size 29 #[.int .i64 0, .int .i64 0, .int .i64 0, .int .i64 0, .int .i64 0, .int .i64 0, .int .i64 0, .int .i64 0, .int .i64 0, .int .i64 0, .int .i64 0, .int .i64 0, .int .i64 0, .int .i64 0] := HP2.out.keepR HR2.out O; have kr3 := P.rowOf; have kp3 := P.plain; have kl3 := P.lt; have HP3 := Lib.hid P; have HR3 := Lib.hid R; have HO3 := Lib.hid (HO2.out.trans O); clear P R O))
  refine bodyPost_ret (results_cell1 rfl _ _ rfl (run_loadVar_blk _ _ _ 29 29 (Itm.arr ((r1.job 1).1)) _ 14 (HP3.out.row_ _) Tryz.underlying29 rfl (by kernel_rfl) (by simp [Itm.arr]))) rfl ?_
  exact ⟨rfl, HR3.out.row HP3.out _, HO3.out.setRow (.inr (Nat.le_refl _)) _⟩

set_option maxRecDepth 100000 in
set_option maxHeartbeats 4000000 in
theorem item_split (w : World) (b : Nat) (r r1 : Rd) (x : Wd) (h : RdrAt w b r) (hx : r.word.1 = x) (hr1 : r.word.2 = r1) (hnone : numL x = none) (he : x = kSplit) :
    Calls Tryz.prog 18 #[.pointer (some ⟨b, 0, none⟩)] w fun e w' => e = .returned (.agg (Itm.arr ((r1.job 2).1))) ∧ RdrAt w' b ((r1.job 2).2) ∧ But b w w' := by
  have hlt := h.lt
  have n2 : ¬ w.heap.size = b := fun e => (by omega)
  have P : Blk (w.alloc (.cells #[.int .i64 0, .int .i64 0, .int .i64 0, .int .i64 0, .int .i64 0, .int .i64 0, .int .i64 0, .int .i64 0, .int .i64 0, .int .i64 0, .int .i64 0, .int .i64 0, .int .i64 0, .int .i64 0] 29)) w.heap.size 29 #[.int .i64 0, .int .i64 0, .int .i64 0, .int .i64 0, .int .i64 0, .int .i64 0, .int .i64 0, .int .i64 0, .int .i64 0, .int .i64 0, .int .i64 0, .int .i64 0, .int .i64 0, .int .i64 0] := Blk.new _ _ _
  have R := h.new (.cells #[.int .i64 0, .int .i64 0, .int .i64 0, .int .i64 0, .int .i64 0, .int .i64 0, .int .i64 0, .int .i64 0, .int .i64 0, .int .i64 0, .int .i64 0, .int .i64 0, .int .i64 0, .int .i64 0] 29)
  have O : But b w (w.alloc (.cells #[.int .i64 0, .int .i64 0, .int .i64 0, .int .i64 0, .int .i64 0, .int .i64 0, .int .i64 0, .int .i64 0, .int .i64 0, .int .i64 0, .int .i64 0, .int .i64 0, .int .i64 0, .int .i64 0] 29)) := (Only.refl (· = b) w).alloc _
  have hw := word_at _ b r R
  rw [hx, hr1] at hw
  have HN := Lib.hid (number_w x)
  rw [show numI x = 0 from by unfold numI; rw [hnone]; rfl, show (numL x).isSome = false from by rw [hnone]; rfl] at HN
  obtain ⟨s, hs⟩ : ∃ s, bs x = s := ⟨_, rfl⟩
  have htl : s.toList = x := by rw [← hs]; exact bs_toList x
  rw [hs] at hw HN
  have HW := Lib.hid hw
  have HP0 := Lib.hid P
  have HR0 := Lib.hid R
  have HO0 := Lib.hid O
  clear hx hr1 h hw hs P R O
  subst he
  go_enter Tryz.func18, Tryz.ntmps18
  go_wp2_with (first
    | (go_at_call 35; refine (HW.out).mono ?_; rintro e w1 ⟨rfl, R, O⟩; have P : Blk w1 w.heap.size 29 #[.int .i64 0, .int .i64 0, .int .i64 0, .int .i64 0, .int .i64 0, .int .i64 0, .int .i64 0, .int .i64 0, .int .i64 0, .int .i64 0, .int .i64 0, .int .i64 0, .int .i64 0, .int .i64 0] := HP0.out.keepR HR0.out O; have kr1 := P.rowOf; have kp1 := P.plain; have kl1 := P.lt; have HP1 := Lib.hid P; have HR1 := Lib.hid R; have HO1 := Lib.hid (HO0.out.trans O); clear P R O)
    | (go_at_call 36; refine (HN.out _).mono ?_; rintro e w2 ⟨rfl, B⟩; have R := HR1.out.below B; have O : But b w1 w2 := Only.of_below B; have P : Blk w2 w.heap.size 29 #[.int .i64 0, .int .i64 0, .int .i64 0, .int .i64 0, .int .i64 0, .int .i64 0, .int .i64 0, .int .i64 0, .int .i64 0, .int .i64 0, .int .i64 0, .int .i64 0, .int .i64 0, .int .i64 0] := HP1.out.keepR HR1.out O; have kr2 := P.rowOf; have kp2 := P.plain; have kl2 := P.lt; have HP2 := Lib.hid P; have HR2 := Lib.hid R; have HO2 := Lib.hid (HO1.out.trans O); clear P R O)
    | (go_at_call 39; refine (job_at _ b _ 2 HR2.out).mono ?_; unfold Itm.arr; rintro e w3 ⟨rfl, R, O⟩; have P : Blk w3 w.heap.size 29 #[.int .i64 0, .int .i64 0, .int .i64 0, .int .i64 0, .int .i64 0, .int .i64 0, .int .i64 0, .int .i64 0, .int .i64 0, .int .i64 0, .int .i64 0, .int .i64 0, .int .i64 0, .int .i64 0] := HP2.out.keepR HR2.out O; have kr3 := P.rowOf; have kp3 := P.plain; have kl3 := P.lt; have HP3 := Lib.hid P; have HR3 := Lib.hid R; have HO3 := Lib.hid (HO2.out.trans O); clear P R O))
  refine bodyPost_ret (results_cell1 rfl _ _ rfl (run_loadVar_blk _ _ _ 29 29 (Itm.arr ((r1.job 2).1)) _ 14 (HP3.out.row_ _) Tryz.underlying29 rfl (by kernel_rfl) (by simp [Itm.arr]))) rfl ?_
  exact ⟨rfl, HR3.out.row HP3.out _, HO3.out.setRow (.inr (Nat.le_refl _)) _⟩

set_option maxRecDepth 100000 in
set_option maxHeartbeats 4000000 in
theorem item_join (w : World) (b : Nat) (r r1 : Rd) (x : Wd) (h : RdrAt w b r) (hx : r.word.1 = x) (hr1 : r.word.2 = r1) (hnone : numL x = none) (he : x = kJoin) :
    Calls Tryz.prog 18 #[.pointer (some ⟨b, 0, none⟩)] w fun e w' => e = .returned (.agg (Itm.arr ((r1.job 3).1))) ∧ RdrAt w' b ((r1.job 3).2) ∧ But b w w' := by
  have hlt := h.lt
  have n2 : ¬ w.heap.size = b := fun e => (by omega)
  have P : Blk (w.alloc (.cells #[.int .i64 0, .int .i64 0, .int .i64 0, .int .i64 0, .int .i64 0, .int .i64 0, .int .i64 0, .int .i64 0, .int .i64 0, .int .i64 0, .int .i64 0, .int .i64 0, .int .i64 0, .int .i64 0] 29)) w.heap.size 29 #[.int .i64 0, .int .i64 0, .int .i64 0, .int .i64 0, .int .i64 0, .int .i64 0, .int .i64 0, .int .i64 0, .int .i64 0, .int .i64 0, .int .i64 0, .int .i64 0, .int .i64 0, .int .i64 0] := Blk.new _ _ _
  have R := h.new (.cells #[.int .i64 0, .int .i64 0, .int .i64 0, .int .i64 0, .int .i64 0, .int .i64 0, .int .i64 0, .int .i64 0, .int .i64 0, .int .i64 0, .int .i64 0, .int .i64 0, .int .i64 0, .int .i64 0] 29)
  have O : But b w (w.alloc (.cells #[.int .i64 0, .int .i64 0, .int .i64 0, .int .i64 0, .int .i64 0, .int .i64 0, .int .i64 0, .int .i64 0, .int .i64 0, .int .i64 0, .int .i64 0, .int .i64 0, .int .i64 0, .int .i64 0] 29)) := (Only.refl (· = b) w).alloc _
  have hw := word_at _ b r R
  rw [hx, hr1] at hw
  have HN := Lib.hid (number_w x)
  rw [show numI x = 0 from by unfold numI; rw [hnone]; rfl, show (numL x).isSome = false from by rw [hnone]; rfl] at HN
  obtain ⟨s, hs⟩ : ∃ s, bs x = s := ⟨_, rfl⟩
  have htl : s.toList = x := by rw [← hs]; exact bs_toList x
  rw [hs] at hw HN
  have HW := Lib.hid hw
  have HP0 := Lib.hid P
  have HR0 := Lib.hid R
  have HO0 := Lib.hid O
  clear hx hr1 h hw hs P R O
  subst he
  go_enter Tryz.func18, Tryz.ntmps18
  go_wp2_with (first
    | (go_at_call 35; refine (HW.out).mono ?_; rintro e w1 ⟨rfl, R, O⟩; have P : Blk w1 w.heap.size 29 #[.int .i64 0, .int .i64 0, .int .i64 0, .int .i64 0, .int .i64 0, .int .i64 0, .int .i64 0, .int .i64 0, .int .i64 0, .int .i64 0, .int .i64 0, .int .i64 0, .int .i64 0, .int .i64 0] := HP0.out.keepR HR0.out O; have kr1 := P.rowOf; have kp1 := P.plain; have kl1 := P.lt; have HP1 := Lib.hid P; have HR1 := Lib.hid R; have HO1 := Lib.hid (HO0.out.trans O); clear P R O)
    | (go_at_call 36; refine (HN.out _).mono ?_; rintro e w2 ⟨rfl, B⟩; have R := HR1.out.below B; have O : But b w1 w2 := Only.of_below B; have P : Blk w2 w.heap.size 29 #[.int .i64 0, .int .i64 0, .int .i64 0, .int .i64 0, .int .i64 0, .int .i64 0, .int .i64 0, .int .i64 0, .int .i64 0, .int .i64 0, .int .i64 0, .int .i64 0, .int .i64 0, .int .i64 0] := HP1.out.keepR HR1.out O; have kr2 := P.rowOf; have kp2 := P.plain; have kl2 := P.lt; have HP2 := Lib.hid P; have HR2 := Lib.hid R; have HO2 := Lib.hid (HO1.out.trans O); clear P R O)
    | (go_at_call 39; refine (job_at _ b _ 3 HR2.out).mono ?_; unfold Itm.arr; rintro e w3 ⟨rfl, R, O⟩; have P : Blk w3 w.heap.size 29 #[.int .i64 0, .int .i64 0, .int .i64 0, .int .i64 0, .int .i64 0, .int .i64 0, .int .i64 0, .int .i64 0, .int .i64 0, .int .i64 0, .int .i64 0, .int .i64 0, .int .i64 0, .int .i64 0] := HP2.out.keepR HR2.out O; have kr3 := P.rowOf; have kp3 := P.plain; have kl3 := P.lt; have HP3 := Lib.hid P; have HR3 := Lib.hid R; have HO3 := Lib.hid (HO2.out.trans O); clear P R O))
  refine bodyPost_ret (results_cell1 rfl _ _ rfl (run_loadVar_blk _ _ _ 29 29 (Itm.arr ((r1.job 3).1)) _ 14 (HP3.out.row_ _) Tryz.underlying29 rfl (by kernel_rfl) (by simp [Itm.arr]))) rfl ?_
  exact ⟨rfl, HR3.out.row HP3.out _, HO3.out.setRow (.inr (Nat.le_refl _)) _⟩

set_option maxRecDepth 100000 in
set_option maxHeartbeats 4000000 in
theorem item_copy (w : World) (b : Nat) (r r1 : Rd) (x : Wd) (h : RdrAt w b r) (hx : r.word.1 = x) (hr1 : r.word.2 = r1) (hnone : numL x = none) (he : x = kCopy) :
    Calls Tryz.prog 18 #[.pointer (some ⟨b, 0, none⟩)] w fun e w' => e = .returned (.agg (Itm.arr ((r1.job 4).1))) ∧ RdrAt w' b ((r1.job 4).2) ∧ But b w w' := by
  have hlt := h.lt
  have n2 : ¬ w.heap.size = b := fun e => (by omega)
  have P : Blk (w.alloc (.cells #[.int .i64 0, .int .i64 0, .int .i64 0, .int .i64 0, .int .i64 0, .int .i64 0, .int .i64 0, .int .i64 0, .int .i64 0, .int .i64 0, .int .i64 0, .int .i64 0, .int .i64 0, .int .i64 0] 29)) w.heap.size 29 #[.int .i64 0, .int .i64 0, .int .i64 0, .int .i64 0, .int .i64 0, .int .i64 0, .int .i64 0, .int .i64 0, .int .i64 0, .int .i64 0, .int .i64 0, .int .i64 0, .int .i64 0, .int .i64 0] := Blk.new _ _ _
  have R := h.new (.cells #[.int .i64 0, .int .i64 0, .int .i64 0, .int .i64 0, .int .i64 0, .int .i64 0, .int .i64 0, .int .i64 0, .int .i64 0, .int .i64 0, .int .i64 0, .int .i64 0, .int .i64 0, .int .i64 0] 29)
  have O : But b w (w.alloc (.cells #[.int .i64 0, .int .i64 0, .int .i64 0, .int .i64 0, .int .i64 0, .int .i64 0, .int .i64 0, .int .i64 0, .int .i64 0, .int .i64 0, .int .i64 0, .int .i64 0, .int .i64 0, .int .i64 0] 29)) := (Only.refl (· = b) w).alloc _
  have hw := word_at _ b r R
  rw [hx, hr1] at hw
  have HN := Lib.hid (number_w x)
  rw [show numI x = 0 from by unfold numI; rw [hnone]; rfl, show (numL x).isSome = false from by rw [hnone]; rfl] at HN
  obtain ⟨s, hs⟩ : ∃ s, bs x = s := ⟨_, rfl⟩
  have htl : s.toList = x := by rw [← hs]; exact bs_toList x
  rw [hs] at hw HN
  have HW := Lib.hid hw
  have HP0 := Lib.hid P
  have HR0 := Lib.hid R
  have HO0 := Lib.hid O
  clear hx hr1 h hw hs P R O
  subst he
  go_enter Tryz.func18, Tryz.ntmps18
  go_wp2_with (first
    | (go_at_call 35; refine (HW.out).mono ?_; rintro e w1 ⟨rfl, R, O⟩; have P : Blk w1 w.heap.size 29 #[.int .i64 0, .int .i64 0, .int .i64 0, .int .i64 0, .int .i64 0, .int .i64 0, .int .i64 0, .int .i64 0, .int .i64 0, .int .i64 0, .int .i64 0, .int .i64 0, .int .i64 0, .int .i64 0] := HP0.out.keepR HR0.out O; have kr1 := P.rowOf; have kp1 := P.plain; have kl1 := P.lt; have HP1 := Lib.hid P; have HR1 := Lib.hid R; have HO1 := Lib.hid (HO0.out.trans O); clear P R O)
    | (go_at_call 36; refine (HN.out _).mono ?_; rintro e w2 ⟨rfl, B⟩; have R := HR1.out.below B; have O : But b w1 w2 := Only.of_below B; have P : Blk w2 w.heap.size 29 #[.int .i64 0, .int .i64 0, .int .i64 0, .int .i64 0, .int .i64 0, .int .i64 0, .int .i64 0, .int .i64 0, .int .i64 0, .int .i64 0, .int .i64 0, .int .i64 0, .int .i64 0, .int .i64 0] := HP1.out.keepR HR1.out O; have kr2 := P.rowOf; have kp2 := P.plain; have kl2 := P.lt; have HP2 := Lib.hid P; have HR2 := Lib.hid R; have HO2 := Lib.hid (HO1.out.trans O); clear P R O)
    | (go_at_call 39; refine (job_at _ b _ 4 HR2.out).mono ?_; unfold Itm.arr; rintro e w3 ⟨rfl, R, O⟩; have P : Blk w3 w.heap.size 29 #[.int .i64 0, .int .i64 0, .int .i64 0, .int .i64 0, .int .i64 0, .int .i64 0, .int .i64 0, .int .i64 0, .int .i64 0, .int .i64 0, .int .i64 0, .int .i64 0, .int .i64 0, .int .i64 0] := HP2.out.keepR HR2.out O; have kr3 := P.rowOf; have kp3 := P.plain; have kl3 := P.lt; have HP3 := Lib.hid P; have HR3 := Lib.hid R; have HO3 := Lib.hid (HO2.out.trans O); clear P R O))
  refine bodyPost_ret (results_cell1 rfl _ _ rfl (run_loadVar_blk _ _ _ 29 29 (Itm.arr ((r1.job 4).1)) _ 14 (HP3.out.row_ _) Tryz.underlying29 rfl (by kernel_rfl) (by simp [Itm.arr]))) rfl ?_
  exact ⟨rfl, HR3.out.row HP3.out _, HO3.out.setRow (.inr (Nat.le_refl _)) _⟩

set_option maxRecDepth 100000 in
set_option maxHeartbeats 4000000 in
theorem item_none (w : World) (b : Nat) (r r1 : Rd) (x : Wd) (h : RdrAt w b r) (hx : r.word.1 = x) (hr1 : r.word.2 = r1) (hnone : numL x = none) (h_kCore : x ≠ kCore) (h_kDaemon : x ≠ kDaemon) (h_kEvict : x ≠ kEvict) (h_kRounds : x ≠ kRounds) (h_kMove : x ≠ kMove) (h_kSplit : x ≠ kSplit) (h_kJoin : x ≠ kJoin) (h_kCopy : x ≠ kCopy) :
    Calls Tryz.prog 18 #[.pointer (some ⟨b, 0, none⟩)] w fun e w' => e = .returned (.agg (Itm.arr (i0))) ∧ RdrAt w' b ({ r1 with bad := true }) ∧ But b w w' := by
  have hlt := h.lt
  have n2 : ¬ w.heap.size = b := fun e => (by omega)
  have P : Blk (w.alloc (.cells #[.int .i64 0, .int .i64 0, .int .i64 0, .int .i64 0, .int .i64 0, .int .i64 0, .int .i64 0, .int .i64 0, .int .i64 0, .int .i64 0, .int .i64 0, .int .i64 0, .int .i64 0, .int .i64 0] 29)) w.heap.size 29 #[.int .i64 0, .int .i64 0, .int .i64 0, .int .i64 0, .int .i64 0, .int .i64 0, .int .i64 0, .int .i64 0, .int .i64 0, .int .i64 0, .int .i64 0, .int .i64 0, .int .i64 0, .int .i64 0] := Blk.new _ _ _
  have R := h.new (.cells #[.int .i64 0, .int .i64 0, .int .i64 0, .int .i64 0, .int .i64 0, .int .i64 0, .int .i64 0, .int .i64 0, .int .i64 0, .int .i64 0, .int .i64 0, .int .i64 0, .int .i64 0, .int .i64 0] 29)
  have O : But b w (w.alloc (.cells #[.int .i64 0, .int .i64 0, .int .i64 0, .int .i64 0, .int .i64 0, .int .i64 0, .int .i64 0, .int .i64 0, .int .i64 0, .int .i64 0, .int .i64 0, .int .i64 0, .int .i64 0, .int .i64 0] 29)) := (Only.refl (· = b) w).alloc _
  have hw := word_at _ b r R
  rw [hx, hr1] at hw
  have HN := Lib.hid (number_w x)
  rw [show numI x = 0 from by unfold numI; rw [hnone]; rfl, show (numL x).isSome = false from by rw [hnone]; rfl] at HN
  obtain ⟨s, hs⟩ : ∃ s, bs x = s := ⟨_, rfl⟩
  have htl : s.toList = x := by rw [← hs]; exact bs_toList x
  rw [hs] at hw HN
  have HW := Lib.hid hw
  have HP0 := Lib.hid P
  have HR0 := Lib.hid R
  have HO0 := Lib.hid O
  clear hx hr1 h hw hs P R O
  have g_kCore : (x == [99, 111, 114, 101]) = false := by simpa using h_kCore
  have g_kDaemon : (x == [100, 97, 101, 109, 111, 110]) = false := by simpa using h_kDaemon
  have g_kEvict : (x == [101, 118, 105, 99, 116]) = false := by simpa using h_kEvict
  have g_kRounds : (x == [114, 111, 117, 110, 100, 115]) = false := by simpa using h_kRounds
  have g_kMove : (x == [109, 111, 118, 101]) = false := by simpa using h_kMove
  have g_kSplit : (x == [115, 112, 108, 105, 116]) = false := by simpa using h_kSplit
  have g_kJoin : (x == [106, 111, 105, 110]) = false := by simpa using h_kJoin
  have g_kCopy : (x == [99, 111, 112, 121]) = false := by simpa using h_kCopy
  go_enter Tryz.func18, Tryz.ntmps18
  go_wp2_with (first
    | (go_at_call 35; refine (HW.out).mono ?_; rintro e w1 ⟨rfl, R, O⟩; have P : Blk w1 w.heap.size 29 #[.int .i64 0, .int .i64 0, .int .i64 0, .int .i64 0, .int .i64 0, .int .i64 0, .int .i64 0, .int .i64 0, .int .i64 0, .int .i64 0, .int .i64 0, .int .i64 0, .int .i64 0, .int .i64 0] := HP0.out.keepR HR0.out O; have kr1 := P.rowOf; have kp1 := P.plain; have kl1 := P.lt; have HP1 := Lib.hid P; have HR1 := Lib.hid R; have HO1 := Lib.hid (HO0.out.trans O); clear P R O)
    | (go_at_call 36; refine (HN.out _).mono ?_; rintro e w2 ⟨rfl, B⟩; have R := HR1.out.below B; have O : But b w1 w2 := Only.of_below B; have P : Blk w2 w.heap.size 29 #[.int .i64 0, .int .i64 0, .int .i64 0, .int .i64 0, .int .i64 0, .int .i64 0, .int .i64 0, .int .i64 0, .int .i64 0, .int .i64 0, .int .i64 0, .int .i64 0, .int .i64 0, .int .i64 0] := HP1.out.keepR HR1.out O; have kr2 := P.rowOf; have kp2 := P.plain; have kl2 := P.lt; have hR := R; obtain ⟨q, hb, _⟩ := hR; have d1 := hb.cell 1; have f1 := hb.frozen 1; have hl2 := hb.lt; clear hb; have HP2 := Lib.hid P; have HR2 := Lib.hid R; have HO2 := Lib.hid (HO1.out.trans O); clear P R O))
  refine bodyPost_ret (results_cell1 rfl _ _ rfl (run_loadVar_blk _ _ _ 29 29 (Itm.arr (i0)) _ 14 ((HP2.out.setOther 1 _ (Ne.symm n2)).row_ _) Tryz.underlying29 rfl (by kernel_rfl) (by simp [Itm.arr]))) rfl ?_
  exact ⟨rfl, (HR2.out.setBad true).row (HP2.out.setOther 1 _ (Ne.symm n2)) _, (HO2.out.setCell (p := ⟨b, 1, none⟩) (.inl rfl) _).setRow (.inr (Nat.le_refl _)) _⟩

theorem item_at (w : World) (b : Nat) (r : Rd) (h : RdrAt w b r) : Calls Tryz.prog 18 #[.pointer (some ⟨b, 0, none⟩)] w fun e w' => e = .returned (.agg r.item.1.arr) ∧ RdrAt w' b r.item.2 ∧ But b w w' := by
  cases hn : numL r.word.1 with
  | some n =>
    have e1 : r.item = ({ i0 with kind := 1, who := n, call := r.word.2.call.1 }, r.word.2.call.2) := by
      unfold Rd.item
      simp only [hn]
    rw [e1]
    exact item_call w b r _ _ h rfl rfl n hn
  | none =>
    by_cases h_kCore : r.word.1 = kCore
    · have e1 : r.item = ({ i0 with kind := 2, who := r.word.2.number.1 }, r.word.2.number.2) := by
        unfold Rd.item
        simp only [hn, if_pos h_kCore]
      rw [e1]
      exact item_core w b r _ _ h rfl rfl hn h_kCore
    by_cases h_kDaemon : r.word.1 = kDaemon
    · have e1 : r.item = ({ i0 with kind := 4, who := r.word.2.number.1 }, r.word.2.number.2) := by
        unfold Rd.item
        simp only [hn, if_neg h_kCore, if_pos h_kDaemon]
      rw [e1]
      exact item_daemon w b r _ _ h rfl rfl hn h_kDaemon
    by_cases h_kEvict : r.word.1 = kEvict
    · have e1 : r.item = ({ i0 with kind := 5, who := r.word.2.number.1, n := r.word.2.number.2.number.1 }, r.word.2.number.2.number.2) := by
        unfold Rd.item
        simp only [hn, if_neg h_kCore, if_neg h_kDaemon, if_pos h_kEvict]
      rw [e1]
      exact item_evict w b r _ _ h rfl rfl hn h_kEvict
    by_cases h_kRounds : r.word.1 = kRounds
    · have e1 : r.item = ({ i0 with kind := 6, n := r.word.2.number.1 }, r.word.2.number.2) := by
        unfold Rd.item
        simp only [hn, if_neg h_kCore, if_neg h_kDaemon, if_neg h_kEvict, if_pos h_kRounds]
      rw [e1]
      exact item_rounds w b r _ _ h rfl rfl hn h_kRounds
    by_cases h_kMove : r.word.1 = kMove
    · have e1 : r.item = ((r.word.2.job 1).1, (r.word.2.job 1).2) := by
        unfold Rd.item
        simp only [hn, if_neg h_kCore, if_neg h_kDaemon, if_neg h_kEvict, if_neg h_kRounds, if_pos h_kMove]
      rw [e1]
      exact item_move w b r _ _ h rfl rfl hn h_kMove
    by_cases h_kSplit : r.word.1 = kSplit
    · have e1 : r.item = ((r.word.2.job 2).1, (r.word.2.job 2).2) := by
        unfold Rd.item
        simp only [hn, if_neg h_kCore, if_neg h_kDaemon, if_neg h_kEvict, if_neg h_kRounds, if_neg h_kMove, if_pos h_kSplit]
      rw [e1]
      exact item_split w b r _ _ h rfl rfl hn h_kSplit
    by_cases h_kJoin : r.word.1 = kJoin
    · have e1 : r.item = ((r.word.2.job 3).1, (r.word.2.job 3).2) := by
        unfold Rd.item
        simp only [hn, if_neg h_kCore, if_neg h_kDaemon, if_neg h_kEvict, if_neg h_kRounds, if_neg h_kMove, if_neg h_kSplit, if_pos h_kJoin]
      rw [e1]
      exact item_join w b r _ _ h rfl rfl hn h_kJoin
    by_cases h_kCopy : r.word.1 = kCopy
    · have e1 : r.item = ((r.word.2.job 4).1, (r.word.2.job 4).2) := by
        unfold Rd.item
        simp only [hn, if_neg h_kCore, if_neg h_kDaemon, if_neg h_kEvict, if_neg h_kRounds, if_neg h_kMove, if_neg h_kSplit, if_neg h_kJoin, if_pos h_kCopy]
      rw [e1]
      exact item_copy w b r _ _ h rfl rfl hn h_kCopy
    have e1 : r.item = (i0, { r.word.2 with bad := true }) := by
      unfold Rd.item
      simp only [hn, if_neg h_kCore, if_neg h_kDaemon, if_neg h_kEvict, if_neg h_kRounds, if_neg h_kMove, if_neg h_kSplit, if_neg h_kJoin, if_neg h_kCopy]
    rw [e1]
    exact item_none w b r _ _ h rfl rfl hn h_kCore h_kDaemon h_kEvict h_kRounds h_kMove h_kSplit h_kJoin h_kCopy
end Go.Proofs.YtccoafacbbkooaaGreatDoor
