/- Script: the reader: call. Printed by mkScF.py. -/
import Derived.Test.YtccoafacbbkooaaGreatDoorScE
namespace Go.Proofs.YtccoafacbbkooaaGreatDoor
open Go.RowKit

set_option maxRecDepth 100000 in
set_option maxHeartbeats 4000000 in
theorem call_load (w : World) (b : Nat) (r r1 : Rd) (x : Wd) (h : RdrAt w b r) (hx : r.word.1 = x) (hr1 : r.word.2 = r1) (he : x = kLoad) :
    Calls Tryz.prog 37 #[.pointer (some ⟨b, 0, none⟩)] w fun e w' => e = .returned (.agg (Cl.arr ({ c0 with kind := 5, addr := r1.number.1 }))) ∧ RdrAt w' b (r1.number.2) ∧ But b w w' := by
  have hlt := h.lt
  have n2 : ¬ w.heap.size = b := fun e => (by omega)
  have n3 : ¬ w.heap.size + 1 = b := fun e => (by omega)
  have nq : w.heap.size + 1 ≠ w.heap.size := fun e => (by omega)
  have P : Blk ((w.alloc (.cells #[.int .i64 0, .int .i64 0, .int .i64 0, .int .i64 0, .int .i64 0, .int .i64 0, .int .i64 0, .int .i64 0] 25)).alloc (.cells #[.int .i64 0, .int .i64 0, .int .i64 0, .int .i64 0, .int .i64 0, .int .i64 0, .int .i64 0, .int .i64 0] 25)) w.heap.size 25 #[.int .i64 0, .int .i64 0, .int .i64 0, .int .i64 0, .int .i64 0, .int .i64 0, .int .i64 0, .int .i64 0] := (Blk.new _ _ _).new2 _
  have Q : Blk ((w.alloc (.cells #[.int .i64 0, .int .i64 0, .int .i64 0, .int .i64 0, .int .i64 0, .int .i64 0, .int .i64 0, .int .i64 0] 25)).alloc (.cells #[.int .i64 0, .int .i64 0, .int .i64 0, .int .i64 0, .int .i64 0, .int .i64 0, .int .i64 0, .int .i64 0] 25)) (w.heap.size + 1) 25 #[.int .i64 0, .int .i64 0, .int .i64 0, .int .i64 0, .int .i64 0, .int .i64 0, .int .i64 0, .int .i64 0] := by
    have := Blk.new (w.alloc (.cells #[.int .i64 0, .int .i64 0, .int .i64 0, .int .i64 0, .int .i64 0, .int .i64 0, .int .i64 0, .int .i64 0] 25)) 25 #[.int .i64 0, .int .i64 0, .int .i64 0, .int .i64 0, .int .i64 0, .int .i64 0, .int .i64 0, .int .i64 0]
    rwa [World.size_alloc] at this
  have R := (h.new (.cells #[.int .i64 0, .int .i64 0, .int .i64 0, .int .i64 0, .int .i64 0, .int .i64 0, .int .i64 0, .int .i64 0] 25)).new (.cells #[.int .i64 0, .int .i64 0, .int .i64 0, .int .i64 0, .int .i64 0, .int .i64 0, .int .i64 0, .int .i64 0] 25)
  have O : But b w ((w.alloc (.cells #[.int .i64 0, .int .i64 0, .int .i64 0, .int .i64 0, .int .i64 0, .int .i64 0, .int .i64 0, .int .i64 0] 25)).alloc (.cells #[.int .i64 0, .int .i64 0, .int .i64 0, .int .i64 0, .int .i64 0, .int .i64 0, .int .i64 0, .int .i64 0] 25)) := ((Only.refl (· = b) w).alloc _).alloc _
  have hw := word_at _ b r R
  rw [hx, hr1] at hw
  obtain ⟨s, hs⟩ : ∃ s, bs x = s := ⟨_, rfl⟩
  have htl : s.toList = x := by rw [← hs]; exact bs_toList x
  rw [hs] at hw
  have HW := Lib.hid hw
  have HP0 := Lib.hid P
  have HQ0 := Lib.hid Q
  have HR0 := Lib.hid R
  have HO0 := Lib.hid O
  clear hx hr1 h hw hs P Q R O
  subst he
  go_enter Tryz.func37, Tryz.ntmps37
  go_wp2_with (first
    | (go_at_call 35; refine (HW.out).mono ?_; rintro e w1 ⟨rfl, R, O⟩; have P : Blk w1 w.heap.size 25 #[.int .i64 0, .int .i64 0, .int .i64 0, .int .i64 0, .int .i64 0, .int .i64 0, .int .i64 0, .int .i64 0] := HP0.out.keepR HR0.out O; have Q : Blk w1 (w.heap.size + 1) 25 #[.int .i64 0, .int .i64 0, .int .i64 0, .int .i64 0, .int .i64 0, .int .i64 0, .int .i64 0, .int .i64 0] := HQ0.out.keepR HR0.out O; have kr1 := P.rowOf; have kp1 := P.plain; have kl1 := P.lt; have qr1 := Q.rowOf; have qp1 := Q.plain; have ql1 := Q.lt; have HP1 := Lib.hid P; have HQ1 := Lib.hid Q; have HR1 := Lib.hid R; have HO1 := Lib.hid (HO0.out.trans O); clear P Q R O)
    | (go_at_call 38; refine (number_at _ b _ HR1.out).mono ?_; rintro e w2 ⟨rfl, R, O⟩; have P : Blk w2 w.heap.size 25 #[.int .i64 0, .int .i64 0, .int .i64 0, .int .i64 0, .int .i64 0, .int .i64 0, .int .i64 0, .int .i64 0] := HP1.out.keepR HR1.out O; have Q : Blk w2 (w.heap.size + 1) 25 #[.int .i64 0, .int .i64 0, .int .i64 0, .int .i64 0, .int .i64 0, .int .i64 0, .int .i64 0, .int .i64 0] := HQ1.out.keepR HR1.out O; have kr2 := P.rowOf; have kp2 := P.plain; have kl2 := P.lt; have qr2 := Q.rowOf; have qp2 := Q.plain; have ql2 := Q.lt; have qc2_0 : w2.cell? ⟨w.heap.size + 1, 0, none⟩ = some (.int .i64 0) := Q.cell 0; have qf2_0 := Q.frozen 0; have qc2_6 : w2.cell? ⟨w.heap.size + 1, 6, none⟩ = some (.int .i64 0) := Q.cell 6; have qf2_6 := Q.frozen 6; have HP2 := Lib.hid P; have HQ2 := Lib.hid Q; have HR2 := Lib.hid R; have HO2 := Lib.hid (HO1.out.trans O); clear P Q R O))
  refine bodyPost_ret (results_cell1 rfl _ _ rfl (run_loadVar_blk _ _ _ 25 25 (Cl.arr ({ c0 with kind := 5, addr := r1.number.1 })) _ 8 (((HP2.out.setOther 0 _ nq).setOther 6 _ nq).row_ _) Tryz.underlying25 rfl (by kernel_rfl) (by simp [Cl.arr]))) rfl ?_
  exact ⟨rfl, ((HR2.out.cel HQ2.out 0 _).cel (HQ2.out.set_ 0 _) 6 _).row ((HP2.out.setOther 0 _ nq).setOther 6 _ nq) _, ((HO2.out.setCell (p := ⟨w.heap.size + 1, 0, none⟩) (.inr (Nat.le_succ _)) _).setCell (p := ⟨w.heap.size + 1, 6, none⟩) (.inr (Nat.le_succ _)) _).setRow (.inr (Nat.le_refl _)) _⟩

set_option maxRecDepth 100000 in
set_option maxHeartbeats 4000000 in
theorem call_store (w : World) (b : Nat) (r r1 : Rd) (x : Wd) (h : RdrAt w b r) (hx : r.word.1 = x) (hr1 : r.word.2 = r1) (he : x = kStore) :
    Calls Tryz.prog 37 #[.pointer (some ⟨b, 0, none⟩)] w fun e w' => e = .returned (.agg (Cl.arr ({ c0 with kind := 6, addr := r1.number.1, byte := r1.number.2.number.1 }))) ∧ RdrAt w' b (r1.number.2.number.2) ∧ But b w w' := by
  have hlt := h.lt
  have n2 : ¬ w.heap.size = b := fun e => (by omega)
  have n3 : ¬ w.heap.size + 1 = b := fun e => (by omega)
  have nq : w.heap.size + 1 ≠ w.heap.size := fun e => (by omega)
  have P : Blk ((w.alloc (.cells #[.int .i64 0, .int .i64 0, .int .i64 0, .int .i64 0, .int .i64 0, .int .i64 0, .int .i64 0, .int .i64 0] 25)).alloc (.cells #[.int .i64 0, .int .i64 0, .int .i64 0, .int .i64 0, .int .i64 0, .int .i64 0, .int .i64 0, .int .i64 0] 25)) w.heap.size 25 #[.int .i64 0, .int .i64 0, .int .i64 0, .int .i64 0, .int .i64 0, .int .i64 0, .int .i64 0, .int .i64 0] := (Blk.new _ _ _).new2 _
  have Q : Blk ((w.alloc (.cells #[.int .i64 0, .int .i64 0, .int .i64 0, .int .i64 0, .int .i64 0, .int .i64 0, .int .i64 0, .int .i64 0] 25)).alloc (.cells #[.int .i64 0, .int .i64 0, .int .i64 0, .int .i64 0, .int .i64 0, .int .i64 0, .int .i64 0, .int .i64 0] 25)) (w.heap.size + 1) 25 #[.int .i64 0, .int .i64 0, .int .i64 0, .int .i64 0, .int .i64 0, .int .i64 0, .int .i64 0, .int .i64 0] := by
    have := Blk.new (w.alloc (.cells #[.int .i64 0, .int .i64 0, .int .i64 0, .int .i64 0, .int .i64 0, .int .i64 0, .int .i64 0, .int .i64 0] 25)) 25 #[.int .i64 0, .int .i64 0, .int .i64 0, .int .i64 0, .int .i64 0, .int .i64 0, .int .i64 0, .int .i64 0]
    rwa [World.size_alloc] at this
  have R := (h.new (.cells #[.int .i64 0, .int .i64 0, .int .i64 0, .int .i64 0, .int .i64 0, .int .i64 0, .int .i64 0, .int .i64 0] 25)).new (.cells #[.int .i64 0, .int .i64 0, .int .i64 0, .int .i64 0, .int .i64 0, .int .i64 0, .int .i64 0, .int .i64 0] 25)
  have O : But b w ((w.alloc (.cells #[.int .i64 0, .int .i64 0, .int .i64 0, .int .i64 0, .int .i64 0, .int .i64 0, .int .i64 0, .int .i64 0] 25)).alloc (.cells #[.int .i64 0, .int .i64 0, .int .i64 0, .int .i64 0, .int .i64 0, .int .i64 0, .int .i64 0, .int .i64 0] 25)) := ((Only.refl (· = b) w).alloc _).alloc _
  have hw := word_at _ b r R
  rw [hx, hr1] at hw
  obtain ⟨s, hs⟩ : ∃ s, bs x = s := ⟨_, rfl⟩
  have htl : s.toList = x := by rw [← hs]; exact bs_toList x
  rw [hs] at hw
  have HW := Lib.hid hw
  have HP0 := Lib.hid P
  have HQ0 := Lib.hid Q
  have HR0 := Lib.hid R
  have HO0 := Lib.hid O
  clear hx hr1 h hw hs P Q R O
  subst he
  go_enter Tryz.func37, Tryz.ntmps37
  go_wp2_with (first
    | (go_at_call 35; refine (HW.out).mono ?_; rintro e w1 ⟨rfl, R, O⟩; have P : Blk w1 w.heap.size 25 #[.int .i64 0, .int .i64 0, .int .i64 0, .int .i64 0, .int .i64 0, .int .i64 0, .int .i64 0, .int .i64 0] := HP0.out.keepR HR0.out O; have Q : Blk w1 (w.heap.size + 1) 25 #[.int .i64 0, .int .i64 0, .int .i64 0, .int .i64 0, .int .i64 0, .int .i64 0, .int .i64 0, .int .i64 0] := HQ0.out.keepR HR0.out O; have kr1 := P.rowOf; have kp1 := P.plain; have kl1 := P.lt; have qr1 := Q.rowOf; have qp1 := Q.plain; have ql1 := Q.lt; have HP1 := Lib.hid P; have HQ1 := Lib.hid Q; have HR1 := Lib.hid R; have HO1 := Lib.hid (HO0.out.trans O); clear P Q R O)
    | (go_at_call 38; refine (number_at _ b _ HR1.out).mono ?_; rintro e w2 ⟨rfl, R, O⟩; have P : Blk w2 w.heap.size 25 #[.int .i64 0, .int .i64 0, .int .i64 0, .int .i64 0, .int .i64 0, .int .i64 0, .int .i64 0, .int .i64 0] := HP1.out.keepR HR1.out O; have Q : Blk w2 (w.heap.size + 1) 25 #[.int .i64 0, .int .i64 0, .int .i64 0, .int .i64 0, .int .i64 0, .int .i64 0, .int .i64 0, .int .i64 0] := HQ1.out.keepR HR1.out O; have kr2 := P.rowOf; have kp2 := P.plain; have kl2 := P.lt; have qr2 := Q.rowOf; have qp2 := Q.plain; have ql2 := Q.lt; have qc2_0 : w2.cell? ⟨w.heap.size + 1, 0, none⟩ = some (.int .i64 0) := Q.cell 0; have qf2_0 := Q.frozen 0; have qc2_6 : w2.cell? ⟨w.heap.size + 1, 6, none⟩ = some (.int .i64 0) := Q.cell 6; have qf2_6 := Q.frozen 6; have HP2 := Lib.hid P; have HQ2 := Lib.hid Q; have HR2 := Lib.hid R; have HO2 := Lib.hid (HO1.out.trans O); clear P Q R O)
    | (go_at_call 38; refine (number_at _ b _ ((HR2.out.cel HQ2.out 0 _).cel (HQ2.out.set_ 0 _) 6 _)).mono ?_; rintro e w3 ⟨rfl, R, O⟩; have P : Blk w3 w.heap.size 25 #[.int .i64 0, .int .i64 0, .int .i64 0, .int .i64 0, .int .i64 0, .int .i64 0, .int .i64 0, .int .i64 0] := ((HP2.out.setOther 0 _ nq).setOther 6 _ nq).keepR ((HR2.out.cel HQ2.out 0 _).cel (HQ2.out.set_ 0 _) 6 _) O; have Q : Blk w3 (w.heap.size + 1) 25 #[.int .i64 5, .int .i64 0, .int .i64 0, .int .i64 0, .int .i64 0, .int .i64 0, .int .i64 (r1.number.1), .int .i64 0] := ((HQ2.out.set_ 0 _).set_ 6 _).keepR ((HR2.out.cel HQ2.out 0 _).cel (HQ2.out.set_ 0 _) 6 _) O; have kr3 := P.rowOf; have kp3 := P.plain; have kl3 := P.lt; have qr3 := Q.rowOf; have qp3 := Q.plain; have ql3 := Q.lt; have qc3_0 : w3.cell? ⟨w.heap.size + 1, 0, none⟩ = some (.int .i64 5) := Q.cell 0; have qf3_0 := Q.frozen 0; have qc3_7 : w3.cell? ⟨w.heap.size + 1, 7, none⟩ = some (.int .i64 0) := Q.cell 7; have qf3_7 := Q.frozen 7; have HP3 := Lib.hid P; have HQ3 := Lib.hid Q; have HR3 := Lib.hid R; have HO3 := Lib.hid (((HO2.out.setCell (p := ⟨w.heap.size + 1, 0, none⟩) (.inr (Nat.le_succ _)) _).setCell (p := ⟨w.heap.size + 1, 6, none⟩) (.inr (Nat.le_succ _)) _).trans O); clear P Q R O))
  refine bodyPost_ret (results_cell1 rfl _ _ rfl (run_loadVar_blk _ _ _ 25 25 (Cl.arr ({ c0 with kind := 6, addr := r1.number.1, byte := r1.number.2.number.1 })) _ 8 (((HP3.out.setOther 0 _ nq).setOther 7 _ nq).row_ _) Tryz.underlying25 rfl (by kernel_rfl) (by simp [Cl.arr]))) rfl ?_
  exact ⟨rfl, ((HR3.out.cel HQ3.out 0 _).cel (HQ3.out.set_ 0 _) 7 _).row ((HP3.out.setOther 0 _ nq).setOther 7 _ nq) _, ((HO3.out.setCell (p := ⟨w.heap.size + 1, 0, none⟩) (.inr (Nat.le_succ _)) _).setCell (p := ⟨w.heap.size + 1, 7, none⟩) (.inr (Nat.le_succ _)) _).setRow (.inr (Nat.le_refl _)) _⟩

set_option maxRecDepth 100000 in
set_option maxHeartbeats 4000000 in
theorem call_unmap (w : World) (b : Nat) (r r1 : Rd) (x : Wd) (h : RdrAt w b r) (hx : r.word.1 = x) (hr1 : r.word.2 = r1) (he : x = kUnmap) :
    Calls Tryz.prog 37 #[.pointer (some ⟨b, 0, none⟩)] w fun e w' => e = .returned (.agg (Cl.arr ({ c0 with page := r1.number.1, pages := r1.number.2.number.1, kind := 2 }))) ∧ RdrAt w' b (r1.number.2.number.2) ∧ But b w w' := by
  have hlt := h.lt
  have n2 : ¬ w.heap.size = b := fun e => (by omega)
  have n3 : ¬ w.heap.size + 1 = b := fun e => (by omega)
  have nq : w.heap.size + 1 ≠ w.heap.size := fun e => (by omega)
  have P : Blk ((w.alloc (.cells #[.int .i64 0, .int .i64 0, .int .i64 0, .int .i64 0, .int .i64 0, .int .i64 0, .int .i64 0, .int .i64 0] 25)).alloc (.cells #[.int .i64 0, .int .i64 0, .int .i64 0, .int .i64 0, .int .i64 0, .int .i64 0, .int .i64 0, .int .i64 0] 25)) w.heap.size 25 #[.int .i64 0, .int .i64 0, .int .i64 0, .int .i64 0, .int .i64 0, .int .i64 0, .int .i64 0, .int .i64 0] := (Blk.new _ _ _).new2 _
  have Q : Blk ((w.alloc (.cells #[.int .i64 0, .int .i64 0, .int .i64 0, .int .i64 0, .int .i64 0, .int .i64 0, .int .i64 0, .int .i64 0] 25)).alloc (.cells #[.int .i64 0, .int .i64 0, .int .i64 0, .int .i64 0, .int .i64 0, .int .i64 0, .int .i64 0, .int .i64 0] 25)) (w.heap.size + 1) 25 #[.int .i64 0, .int .i64 0, .int .i64 0, .int .i64 0, .int .i64 0, .int .i64 0, .int .i64 0, .int .i64 0] := by
    have := Blk.new (w.alloc (.cells #[.int .i64 0, .int .i64 0, .int .i64 0, .int .i64 0, .int .i64 0, .int .i64 0, .int .i64 0, .int .i64 0] 25)) 25 #[.int .i64 0, .int .i64 0, .int .i64 0, .int .i64 0, .int .i64 0, .int .i64 0, .int .i64 0, .int .i64 0]
    rwa [World.size_alloc] at this
  have R := (h.new (.cells #[.int .i64 0, .int .i64 0, .int .i64 0, .int .i64 0, .int .i64 0, .int .i64 0, .int .i64 0, .int .i64 0] 25)).new (.cells #[.int .i64 0, .int .i64 0, .int .i64 0, .int .i64 0, .int .i64 0, .int .i64 0, .int .i64 0, .int .i64 0] 25)
  have O : But b w ((w.alloc (.cells #[.int .i64 0, .int .i64 0, .int .i64 0, .int .i64 0, .int .i64 0, .int .i64 0, .int .i64 0, .int .i64 0] 25)).alloc (.cells #[.int .i64 0, .int .i64 0, .int .i64 0, .int .i64 0, .int .i64 0, .int .i64 0, .int .i64 0, .int .i64 0] 25)) := ((Only.refl (· = b) w).alloc _).alloc _
  have hw := word_at _ b r R
  rw [hx, hr1] at hw
  obtain ⟨s, hs⟩ : ∃ s, bs x = s := ⟨_, rfl⟩
  have htl : s.toList = x := by rw [← hs]; exact bs_toList x
  rw [hs] at hw
  have HW := Lib.hid hw
  have HP0 := Lib.hid P
  have HQ0 := Lib.hid Q
  have HR0 := Lib.hid R
  have HO0 := Lib.hid O
  clear hx hr1 h hw hs P Q R O
  subst he
  go_enter Tryz.func37, Tryz.ntmps37
  go_wp2_with (first
    | (go_at_call 35; refine (HW.out).mono ?_; rintro e w1 ⟨rfl, R, O⟩; have P : Blk w1 w.heap.size 25 #[.int .i64 0, .int .i64 0, .int .i64 0, .int .i64 0, .int .i64 0, .int .i64 0, .int .i64 0, .int .i64 0] := HP0.out.keepR HR0.out O; have Q : Blk w1 (w.heap.size + 1) 25 #[.int .i64 0, .int .i64 0, .int .i64 0, .int .i64 0, .int .i64 0, .int .i64 0, .int .i64 0, .int .i64 0] := HQ0.out.keepR HR0.out O; have kr1 := P.rowOf; have kp1 := P.plain; have kl1 := P.lt; have qr1 := Q.rowOf; have qp1 := Q.plain; have ql1 := Q.lt; have HP1 := Lib.hid P; have HQ1 := Lib.hid Q; have HR1 := Lib.hid R; have HO1 := Lib.hid (HO0.out.trans O); clear P Q R O)
    | (go_at_call 38; refine (number_at _ b _ HR1.out).mono ?_; rintro e w2 ⟨rfl, R, O⟩; have P : Blk w2 w.heap.size 25 #[.int .i64 0, .int .i64 0, .int .i64 0, .int .i64 0, .int .i64 0, .int .i64 0, .int .i64 0, .int .i64 0] := HP1.out.keepR HR1.out O; have Q : Blk w2 (w.heap.size + 1) 25 #[.int .i64 0, .int .i64 0, .int .i64 0, .int .i64 0, .int .i64 0, .int .i64 0, .int .i64 0, .int .i64 0] := HQ1.out.keepR HR1.out O; have kr2 := P.rowOf; have kp2 := P.plain; have kl2 := P.lt; have qr2 := Q.rowOf; have qp2 := Q.plain; have ql2 := Q.lt; have HP2 := Lib.hid P; have HQ2 := Lib.hid Q; have HR2 := Lib.hid R; have HO2 := Lib.hid (HO1.out.trans O); clear P Q R O)
    | (go_at_call 38; refine (number_at _ b _ HR2.out).mono ?_; rintro e w3 ⟨rfl, R, O⟩; have P : Blk w3 w.heap.size 25 #[.int .i64 0, .int .i64 0, .int .i64 0, .int .i64 0, .int .i64 0, .int .i64 0, .int .i64 0, .int .i64 0] := HP2.out.keepR HR2.out O; have Q : Blk w3 (w.heap.size + 1) 25 #[.int .i64 0, .int .i64 0, .int .i64 0, .int .i64 0, .int .i64 0, .int .i64 0, .int .i64 0, .int .i64 0] := HQ2.out.keepR HR2.out O; have kr3 := P.rowOf; have kp3 := P.plain; have kl3 := P.lt; have qr3 := Q.rowOf; have qp3 := Q.plain; have ql3 := Q.lt; have qc3_0 : w3.cell? ⟨w.heap.size + 1, 0, none⟩ = some (.int .i64 0) := Q.cell 0; have qf3_0 := Q.frozen 0; have qc3_1 : w3.cell? ⟨w.heap.size + 1, 1, none⟩ = some (.int .i64 0) := Q.cell 1; have qf3_1 := Q.frozen 1; have qc3_2 : w3.cell? ⟨w.heap.size + 1, 2, none⟩ = some (.int .i64 0) := Q.cell 2; have qf3_2 := Q.frozen 2; have HP3 := Lib.hid P; have HQ3 := Lib.hid Q; have HR3 := Lib.hid R; have HO3 := Lib.hid (HO2.out.trans O); clear P Q R O))
  refine bodyPost_ret (results_cell1 rfl _ _ rfl (run_loadVar_blk _ _ _ 25 25 (Cl.arr ({ c0 with page := r1.number.1, pages := r1.number.2.number.1, kind := 2 })) _ 8 ((((HP3.out.setOther 1 _ nq).setOther 2 _ nq).setOther 0 _ nq).row_ _) Tryz.underlying25 rfl (by kernel_rfl) (by simp [Cl.arr]))) rfl ?_
  exact ⟨rfl, (((HR3.out.cel HQ3.out 1 _).cel (HQ3.out.set_ 1 _) 2 _).cel ((HQ3.out.set_ 1 _).set_ 2 _) 0 _).row (((HP3.out.setOther 1 _ nq).setOther 2 _ nq).setOther 0 _ nq) _, (((HO3.out.setCell (p := ⟨w.heap.size + 1, 1, none⟩) (.inr (Nat.le_succ _)) _).setCell (p := ⟨w.heap.size + 1, 2, none⟩) (.inr (Nat.le_succ _)) _).setCell (p := ⟨w.heap.size + 1, 0, none⟩) (.inr (Nat.le_succ _)) _).setRow (.inr (Nat.le_refl _)) _⟩

set_option maxRecDepth 100000 in
set_option maxHeartbeats 4000000 in
theorem call_protect (w : World) (b : Nat) (r r1 : Rd) (x : Wd) (h : RdrAt w b r) (hx : r.word.1 = x) (hr1 : r.word.2 = r1) (he : x = kProtect) :
    Calls Tryz.prog 37 #[.pointer (some ⟨b, 0, none⟩)] w fun e w' => e = .returned (.agg (Cl.arr ({ c0 with page := r1.number.1, pages := r1.number.2.number.1, kind := 3, perm := r1.number.2.number.2.perm.1 }))) ∧ RdrAt w' b (r1.number.2.number.2.perm.2) ∧ But b w w' := by
  have hlt := h.lt
  have n2 : ¬ w.heap.size = b := fun e => (by omega)
  have n3 : ¬ w.heap.size + 1 = b := fun e => (by omega)
  have nq : w.heap.size + 1 ≠ w.heap.size := fun e => (by omega)
  have P : Blk ((w.alloc (.cells #[.int .i64 0, .int .i64 0, .int .i64 0, .int .i64 0, .int .i64 0, .int .i64 0, .int .i64 0, .int .i64 0] 25)).alloc (.cells #[.int .i64 0, .int .i64 0, .int .i64 0, .int .i64 0, .int .i64 0, .int .i64 0, .int .i64 0, .int .i64 0] 25)) w.heap.size 25 #[.int .i64 0, .int .i64 0, .int .i64 0, .int .i64 0, .int .i64 0, .int .i64 0, .int .i64 0, .int .i64 0] := (Blk.new _ _ _).new2 _
  have Q : Blk ((w.alloc (.cells #[.int .i64 0, .int .i64 0, .int .i64 0, .int .i64 0, .int .i64 0, .int .i64 0, .int .i64 0, .int .i64 0] 25)).alloc (.cells #[.int .i64 0, .int .i64 0, .int .i64 0, .int .i64 0, .int .i64 0, .int .i64 0, .int .i64 0, .int .i64 0] 25)) (w.heap.size + 1) 25 #[.int .i64 0, .int .i64 0, .int .i64 0, .int .i64 0, .int .i64 0, .int .i64 0, .int .i64 0, .int .i64 0] := by
    have := Blk.new (w.alloc (.cells #[.int .i64 0, .int .i64 0, .int .i64 0, .int .i64 0, .int .i64 0, .int .i64 0, .int .i64 0, .int .i64 0] 25)) 25 #[.int .i64 0, .int .i64 0, .int .i64 0, .int .i64 0, .int .i64 0, .int .i64 0, .int .i64 0, .int .i64 0]
    rwa [World.size_alloc] at this
  have R := (h.new (.cells #[.int .i64 0, .int .i64 0, .int .i64 0, .int .i64 0, .int .i64 0, .int .i64 0, .int .i64 0, .int .i64 0] 25)).new (.cells #[.int .i64 0, .int .i64 0, .int .i64 0, .int .i64 0, .int .i64 0, .int .i64 0, .int .i64 0, .int .i64 0] 25)
  have O : But b w ((w.alloc (.cells #[.int .i64 0, .int .i64 0, .int .i64 0, .int .i64 0, .int .i64 0, .int .i64 0, .int .i64 0, .int .i64 0] 25)).alloc (.cells #[.int .i64 0, .int .i64 0, .int .i64 0, .int .i64 0, .int .i64 0, .int .i64 0, .int .i64 0, .int .i64 0] 25)) := ((Only.refl (· = b) w).alloc _).alloc _
  have hw := word_at _ b r R
  rw [hx, hr1] at hw
  obtain ⟨s, hs⟩ : ∃ s, bs x = s := ⟨_, rfl⟩
  have htl : s.toList = x := by rw [← hs]; exact bs_toList x
  rw [hs] at hw
  have HW := Lib.hid hw
  have HP0 := Lib.hid P
  have HQ0 := Lib.hid Q
  have HR0 := Lib.hid R
  have HO0 := Lib.hid O
  clear hx hr1 h hw hs P Q R O
  subst he
  go_enter Tryz.func37, Tryz.ntmps37
  go_wp2_with (first
    | (go_at_call 35; refine (HW.out).mono ?_; rintro e w1 ⟨rfl, R, O⟩; have P : Blk w1 w.heap.size 25 #[.int .i64 0, .int .i64 0, .int .i64 0, .int .i64 0, .int .i64 0, .int .i64 0, .int .i64 0, .int .i64 0] := HP0.out.keepR HR0.out O; have Q : Blk w1 (w.heap.size + 1) 25 #[.int .i64 0, .int .i64 0, .int .i64 0, .int .i64 0, .int .i64 0, .int .i64 0, .int .i64 0, .int .i64 0] := HQ0.out.keepR HR0.out O; have kr1 := P.rowOf; have kp1 := P.plain; have kl1 := P.lt; have qr1 := Q.rowOf; have qp1 := Q.plain; have ql1 := Q.lt; have HP1 := Lib.hid P; have HQ1 := Lib.hid Q; have HR1 := Lib.hid R; have HO1 := Lib.hid (HO0.out.trans O); clear P Q R O)
    | (go_at_call 38; refine (number_at _ b _ HR1.out).mono ?_; rintro e w2 ⟨rfl, R, O⟩; have P : Blk w2 w.heap.size 25 #[.int .i64 0, .int .i64 0, .int .i64 0, .int .i64 0, .int .i64 0, .int .i64 0, .int .i64 0, .int .i64 0] := HP1.out.keepR HR1.out O; have Q : Blk w2 (w.heap.size + 1) 25 #[.int .i64 0, .int .i64 0, .int .i64 0, .int .i64 0, .int .i64 0, .int .i64 0, .int .i64 0, .int .i64 0] := HQ1.out.keepR HR1.out O; have kr2 := P.rowOf; have kp2 := P.plain; have kl2 := P.lt; have qr2 := Q.rowOf; have qp2 := Q.plain; have ql2 := Q.lt; have HP2 := Lib.hid P; have HQ2 := Lib.hid Q; have HR2 := Lib.hid R; have HO2 := Lib.hid (HO1.out.trans O); clear P Q R O)
    | (go_at_call 38; refine (number_at _ b _ HR2.out).mono ?_; rintro e w3 ⟨rfl, R, O⟩; have P : Blk w3 w.heap.size 25 #[.int .i64 0, .int .i64 0, .int .i64 0, .int .i64 0, .int .i64 0, .int .i64 0, .int .i64 0, .int .i64 0] := HP2.out.keepR HR2.out O; have Q : Blk w3 (w.heap.size + 1) 25 #[.int .i64 0, .int .i64 0, .int .i64 0, .int .i64 0, .int .i64 0, .int .i64 0, .int .i64 0, .int .i64 0] := HQ2.out.keepR HR2.out O; have kr3 := P.rowOf; have kp3 := P.plain; have kl3 := P.lt; have qr3 := Q.rowOf; have qp3 := Q.plain; have ql3 := Q.lt; have qc3_1 : w3.cell? ⟨w.heap.size + 1, 1, none⟩ = some (.int .i64 0) := Q.cell 1; have qf3_1 := Q.frozen 1; have qc3_2 : w3.cell? ⟨w.heap.size + 1, 2, none⟩ = some (.int .i64 0) := Q.cell 2; have qf3_2 := Q.frozen 2; have HP3 := Lib.hid P; have HQ3 := Lib.hid Q; have HR3 := Lib.hid R; have HO3 := Lib.hid (HO2.out.trans O); clear P Q R O)
    | (go_at_call 54; refine (perm_at _ b _ ((HR3.out.cel HQ3.out 1 _).cel (HQ3.out.set_ 1 _) 2 _)).mono ?_; rintro e w4 ⟨rfl, R, O⟩; have P : Blk w4 w.heap.size 25 #[.int .i64 0, .int .i64 0, .int .i64 0, .int .i64 0, .int .i64 0, .int .i64 0, .int .i64 0, .int .i64 0] := ((HP3.out.setOther 1 _ nq).setOther 2 _ nq).keepR ((HR3.out.cel HQ3.out 1 _).cel (HQ3.out.set_ 1 _) 2 _) O; have Q : Blk w4 (w.heap.size + 1) 25 #[.int .i64 0, .int .i64 (r1.number.1), .int .i64 (r1.number.2.number.1), .int .i64 0, .int .i64 0, .int .i64 0, .int .i64 0, .int .i64 0] := ((HQ3.out.set_ 1 _).set_ 2 _).keepR ((HR3.out.cel HQ3.out 1 _).cel (HQ3.out.set_ 1 _) 2 _) O; have kr4 := P.rowOf; have kp4 := P.plain; have kl4 := P.lt; have qr4 := Q.rowOf; have qp4 := Q.plain; have ql4 := Q.lt; have qc4_0 : w4.cell? ⟨w.heap.size + 1, 0, none⟩ = some (.int .i64 0) := Q.cell 0; have qf4_0 := Q.frozen 0; have qc4_3 : w4.cell? ⟨w.heap.size + 1, 3, none⟩ = some (.int .i64 0) := Q.cell 3; have qf4_3 := Q.frozen 3; have HP4 := Lib.hid P; have HQ4 := Lib.hid Q; have HR4 := Lib.hid R; have HO4 := Lib.hid (((HO3.out.setCell (p := ⟨w.heap.size + 1, 1, none⟩) (.inr (Nat.le_succ _)) _).setCell (p := ⟨w.heap.size + 1, 2, none⟩) (.inr (Nat.le_succ _)) _).trans O); clear P Q R O))
  refine bodyPost_ret (results_cell1 rfl _ _ rfl (run_loadVar_blk _ _ _ 25 25 (Cl.arr ({ c0 with page := r1.number.1, pages := r1.number.2.number.1, kind := 3, perm := r1.number.2.number.2.perm.1 })) _ 8 (((HP4.out.setOther 0 _ nq).setOther 3 _ nq).row_ _) Tryz.underlying25 rfl (by kernel_rfl) (by simp [Cl.arr]))) rfl ?_
  exact ⟨rfl, ((HR4.out.cel HQ4.out 0 _).cel (HQ4.out.set_ 0 _) 3 _).row ((HP4.out.setOther 0 _ nq).setOther 3 _ nq) _, ((HO4.out.setCell (p := ⟨w.heap.size + 1, 0, none⟩) (.inr (Nat.le_succ _)) _).setCell (p := ⟨w.heap.size + 1, 3, none⟩) (.inr (Nat.le_succ _)) _).setRow (.inr (Nat.le_refl _)) _⟩

set_option maxRecDepth 100000 in
set_option maxHeartbeats 4000000 in
theorem call_bind (w : World) (b : Nat) (r r1 : Rd) (x : Wd) (h : RdrAt w b r) (hx : r.word.1 = x) (hr1 : r.word.2 = r1) (he : x = kBind) :
    Calls Tryz.prog 37 #[.pointer (some ⟨b, 0, none⟩)] w fun e w' => e = .returned (.agg (Cl.arr ({ c0 with page := r1.number.1, pages := r1.number.2.number.1, kind := 4, pk := r1.number.2.number.2.policy.1.1, pn := r1.number.2.number.2.policy.1.2 }))) ∧ RdrAt w' b (r1.number.2.number.2.policy.2) ∧ But b w w' := by
  have hlt := h.lt
  have n2 : ¬ w.heap.size = b := fun e => (by omega)
  have n3 : ¬ w.heap.size + 1 = b := fun e => (by omega)
  have nq : w.heap.size + 1 ≠ w.heap.size := fun e => (by omega)
  have P : Blk ((w.alloc (.cells #[.int .i64 0, .int .i64 0, .int .i64 0, .int .i64 0, .int .i64 0, .int .i64 0, .int .i64 0, .int .i64 0] 25)).alloc (.cells #[.int .i64 0, .int .i64 0, .int .i64 0, .int .i64 0, .int .i64 0, .int .i64 0, .int .i64 0, .int .i64 0] 25)) w.heap.size 25 #[.int .i64 0, .int .i64 0, .int .i64 0, .int .i64 0, .int .i64 0, .int .i64 0, .int .i64 0, .int .i64 0] := (Blk.new _ _ _).new2 _
  have Q : Blk ((w.alloc (.cells #[.int .i64 0, .int .i64 0, .int .i64 0, .int .i64 0, .int .i64 0, .int .i64 0, .int .i64 0, .int .i64 0] 25)).alloc (.cells #[.int .i64 0, .int .i64 0, .int .i64 0, .int .i64 0, .int .i64 0, .int .i64 0, .int .i64 0, .int .i64 0] 25)) (w.heap.size + 1) 25 #[.int .i64 0, .int .i64 0, .int .i64 0, .int .i64 0, .int .i64 0, .int .i64 0, .int .i64 0, .int .i64 0] := by
    have := Blk.new (w.alloc (.cells #[.int .i64 0, .int .i64 0, .int .i64 0, .int .i64 0, .int .i64 0, .int .i64 0, .int .i64 0, .int .i64 0] 25)) 25 #[.int .i64 0, .int .i64 0, .int .i64 0, .int .i64 0, .int .i64 0, .int .i64 0, .int .i64 0, .int .i64 0]
    rwa [World.size_alloc] at this
  have R := (h.new (.cells #[.int .i64 0, .int .i64 0, .int .i64 0, .int .i64 0, .int .i64 0, .int .i64 0, .int .i64 0, .int .i64 0] 25)).new (.cells #[.int .i64 0, .int .i64 0, .int .i64 0, .int .i64 0, .int .i64 0, .int .i64 0, .int .i64 0, .int .i64 0] 25)
  have O : But b w ((w.alloc (.cells #[.int .i64 0, .int .i64 0, .int .i64 0, .int .i64 0, .int .i64 0, .int .i64 0, .int .i64 0, .int .i64 0] 25)).alloc (.cells #[.int .i64 0, .int .i64 0, .int .i64 0, .int .i64 0, .int .i64 0, .int .i64 0, .int .i64 0, .int .i64 0] 25)) := ((Only.refl (· = b) w).alloc _).alloc _
  have hw := word_at _ b r R
  rw [hx, hr1] at hw
  obtain ⟨s, hs⟩ : ∃ s, bs x = s := ⟨_, rfl⟩
  have htl : s.toList = x := by rw [← hs]; exact bs_toList x
  rw [hs] at hw
  have HW := Lib.hid hw
  have HP0 := Lib.hid P
  have HQ0 := Lib.hid Q
  have HR0 := Lib.hid R
  have HO0 := Lib.hid O
  clear hx hr1 h hw hs P Q R O
  subst he
  go_enter Tryz.func37, Tryz.ntmps37
  go_wp2_with (first
    | (go_at_call 35; refine (HW.out).mono ?_; rintro e w1 ⟨rfl, R, O⟩; have P : Blk w1 w.heap.size 25 #[.int .i64 0, .int .i64 0, .int .i64 0, .int .i64 0, .int .i64 0, .int .i64 0, .int .i64 0, .int .i64 0] := HP0.out.keepR HR0.out O; have Q : Blk w1 (w.heap.size + 1) 25 #[.int .i64 0, .int .i64 0, .int .i64 0, .int .i64 0, .int .i64 0, .int .i64 0, .int .i64 0, .int .i64 0] := HQ0.out.keepR HR0.out O; have kr1 := P.rowOf; have kp1 := P.plain; have kl1 := P.lt; have qr1 := Q.rowOf; have qp1 := Q.plain; have ql1 := Q.lt; have HP1 := Lib.hid P; have HQ1 := Lib.hid Q; have HR1 := Lib.hid R; have HO1 := Lib.hid (HO0.out.trans O); clear P Q R O)
    | (go_at_call 38; refine (number_at _ b _ HR1.out).mono ?_; rintro e w2 ⟨rfl, R, O⟩; have P : Blk w2 w.heap.size 25 #[.int .i64 0, .int .i64 0, .int .i64 0, .int .i64 0, .int .i64 0, .int .i64 0, .int .i64 0, .int .i64 0] := HP1.out.keepR HR1.out O; have Q : Blk w2 (w.heap.size + 1) 25 #[.int .i64 0, .int .i64 0, .int .i64 0, .int .i64 0, .int .i64 0, .int .i64 0, .int .i64 0, .int .i64 0] := HQ1.out.keepR HR1.out O; have kr2 := P.rowOf; have kp2 := P.plain; have kl2 := P.lt; have qr2 := Q.rowOf; have qp2 := Q.plain; have ql2 := Q.lt; have HP2 := Lib.hid P; have HQ2 := Lib.hid Q; have HR2 := Lib.hid R; have HO2 := Lib.hid (HO1.out.trans O); clear P Q R O)
    | (go_at_call 38; refine (number_at _ b _ HR2.out).mono ?_; rintro e w3 ⟨rfl, R, O⟩; have P : Blk w3 w.heap.size 25 #[.int .i64 0, .int .i64 0, .int .i64 0, .int .i64 0, .int .i64 0, .int .i64 0, .int .i64 0, .int .i64 0] := HP2.out.keepR HR2.out O; have Q : Blk w3 (w.heap.size + 1) 25 #[.int .i64 0, .int .i64 0, .int .i64 0, .int .i64 0, .int .i64 0, .int .i64 0, .int .i64 0, .int .i64 0] := HQ2.out.keepR HR2.out O; have kr3 := P.rowOf; have kp3 := P.plain; have kl3 := P.lt; have qr3 := Q.rowOf; have qp3 := Q.plain; have ql3 := Q.lt; have qc3_1 : w3.cell? ⟨w.heap.size + 1, 1, none⟩ = some (.int .i64 0) := Q.cell 1; have qf3_1 := Q.frozen 1; have qc3_2 : w3.cell? ⟨w.heap.size + 1, 2, none⟩ = some (.int .i64 0) := Q.cell 2; have qf3_2 := Q.frozen 2; have HP3 := Lib.hid P; have HQ3 := Lib.hid Q; have HR3 := Lib.hid R; have HO3 := Lib.hid (HO2.out.trans O); clear P Q R O)
    | (go_at_call 55; refine (policy_at _ b _ ((HR3.out.cel HQ3.out 1 _).cel (HQ3.out.set_ 1 _) 2 _)).mono ?_; unfold polV; rintro e w4 ⟨rfl, R, O⟩; have P : Blk w4 w.heap.size 25 #[.int .i64 0, .int .i64 0, .int .i64 0, .int .i64 0, .int .i64 0, .int .i64 0, .int .i64 0, .int .i64 0] := ((HP3.out.setOther 1 _ nq).setOther 2 _ nq).keepR ((HR3.out.cel HQ3.out 1 _).cel (HQ3.out.set_ 1 _) 2 _) O; have Q : Blk w4 (w.heap.size + 1) 25 #[.int .i64 0, .int .i64 (r1.number.1), .int .i64 (r1.number.2.number.1), .int .i64 0, .int .i64 0, .int .i64 0, .int .i64 0, .int .i64 0] := ((HQ3.out.set_ 1 _).set_ 2 _).keepR ((HR3.out.cel HQ3.out 1 _).cel (HQ3.out.set_ 1 _) 2 _) O; have kr4 := P.rowOf; have kp4 := P.plain; have kl4 := P.lt; have qr4 := Q.rowOf; have qp4 := Q.plain; have ql4 := Q.lt; have qc4_0 : w4.cell? ⟨w.heap.size + 1, 0, none⟩ = some (.int .i64 0) := Q.cell 0; have qf4_0 := Q.frozen 0; have HP4 := Lib.hid P; have HQ4 := Lib.hid Q; have HR4 := Lib.hid R; have HO4 := Lib.hid (((HO3.out.setCell (p := ⟨w.heap.size + 1, 1, none⟩) (.inr (Nat.le_succ _)) _).setCell (p := ⟨w.heap.size + 1, 2, none⟩) (.inr (Nat.le_succ _)) _).trans O); clear P Q R O))
  refine bodyPost_ret (results_cell1 rfl _ _ rfl (run_loadVar_blk _ _ _ 25 25 (Cl.arr ({ c0 with page := r1.number.1, pages := r1.number.2.number.1, kind := 4, pk := r1.number.2.number.2.policy.1.1, pn := r1.number.2.number.2.policy.1.2 })) _ 8 (((HP4.out.setOther 0 _ nq).rowOther _ nq).row_ _) Tryz.underlying25 rfl (by kernel_rfl) (by simp [Cl.arr]))) rfl ?_
  exact ⟨rfl, ((HR4.out.cel HQ4.out 0 _).row (HQ4.out.set_ 0 _) _).row ((HP4.out.setOther 0 _ nq).rowOther _ nq) _, ((HO4.out.setCell (p := ⟨w.heap.size + 1, 0, none⟩) (.inr (Nat.le_succ _)) _).setRow (.inr (Nat.le_succ _)) _).setRow (.inr (Nat.le_refl _)) _⟩

set_option maxRecDepth 100000 in
set_option maxHeartbeats 4000000 in
theorem call_map (w : World) (b : Nat) (r r1 : Rd) (x : Wd) (h : RdrAt w b r) (hx : r.word.1 = x) (hr1 : r.word.2 = r1) (he : x = kMap) :
    Calls Tryz.prog 37 #[.pointer (some ⟨b, 0, none⟩)] w fun e w' => e = .returned (.agg (Cl.arr ({ c0 with page := r1.number.1, pages := r1.number.2.number.1, kind := 1, perm := r1.number.2.number.2.perm.1, pk := r1.number.2.number.2.perm.2.policy.1.1, pn := r1.number.2.number.2.perm.2.policy.1.2 }))) ∧ RdrAt w' b (r1.number.2.number.2.perm.2.policy.2) ∧ But b w w' := by
  have hlt := h.lt
  have n2 : ¬ w.heap.size = b := fun e => (by omega)
  have n3 : ¬ w.heap.size + 1 = b := fun e => (by omega)
  have nq : w.heap.size + 1 ≠ w.heap.size := fun e => (by omega)
  have P : Blk ((w.alloc (.cells #[.int .i64 0, .int .i64 0, .int .i64 0, .int .i64 0, .int .i64 0, .int .i64 0, .int .i64 0, .int .i64 0] 25)).alloc (.cells #[.int .i64 0, .int .i64 0, .int .i64 0, .int .i64 0, .int .i64 0, .int .i64 0, .int .i64 0, .int .i64 0] 25)) w.heap.size 25 #[.int .i64 0, .int .i64 0, .int .i64 0, .int .i64 0, .int .i64 0, .int .i64 0, .int .i64 0, .int .i64 0] := (Blk.new _ _ _).new2 _
  have Q : Blk ((w.alloc (.cells #[.int .i64 0, .int .i64 0, .int .i64 0, .int .i64 0, .int .i64 0, .int .i64 0, .int .i64 0, .int .i64 0] 25)).alloc (.cells #[.int .i64 0, .int .i64 0, .int .i64 0, .int .i64 0, .int .i64 0, .int .i64 0, .int .i64 0, .int .i64 0] 25)) (w.heap.size + 1) 25 #[.int .i64 0, .int .i64 0, .int .i64 0, .int .i64 0, .int .i64 0, .int .i64 0, .int .i64 0, .int .i64 0] := by
    have := Blk.new (w.alloc (.cells #[.int .i64 0, .int .i64 0, .int .i64 0, .int .i64 0, .int .i64 0, .int .i64 0, .int .i64 0, .int .i64 0] 25)) 25 #[.int .i64 0, .int .i64 0, .int .i64 0, .int .i64 0, .int .i64 0, .int .i64 0, .int .i64 0, .int .i64 0]
    rwa [World.size_alloc] at this
  have R := (h.new (.cells #[.int .i64 0, .int .i64 0, .int .i64 0, .int .i64 0, .int .i64 0, .int .i64 0, .int .i64 0, .int .i64 0] 25)).new (.cells #[.int .i64 0, .int .i64 0, .int .i64 0, .int .i64 0, .int .i64 0, .int .i64 0, .int .i64 0, .int .i64 0] 25)
  have O : But b w ((w.alloc (.cells #[.int .i64 0, .int .i64 0, .int .i64 0, .int .i64 0, .int .i64 0, .int .i64 0, .int .i64 0, .int .i64 0] 25)).alloc (.cells #[.int .i64 0, .int .i64 0, .int .i64 0, .int .i64 0, .int .i64 0, .int .i64 0, .int .i64 0, .int .i64 0] 25)) := ((Only.refl (· = b) w).alloc _).alloc _
  have hw := word_at _ b r R
  rw [hx, hr1] at hw
  obtain ⟨s, hs⟩ : ∃ s, bs x = s := ⟨_, rfl⟩
  have htl : s.toList = x := by rw [← hs]; exact bs_toList x
  rw [hs] at hw
  have HW := Lib.hid hw
  have HP0 := Lib.hid P
  have HQ0 := Lib.hid Q
  have HR0 := Lib.hid R
  have HO0 := Lib.hid O
  clear hx hr1 h hw hs P Q R O
  subst he
  go_enter Tryz.func37, Tryz.ntmps37
  go_wp2_with (first
    | (go_at_call 35; refine (HW.out).mono ?_; rintro e w1 ⟨rfl, R, O⟩; have P : Blk w1 w.heap.size 25 #[.int .i64 0, .int .i64 0, .int .i64 0, .int .i64 0, .int .i64 0, .int .i64 0, .int .i64 0, .int .i64 0] := HP0.out.keepR HR0.out O; have Q : Blk w1 (w.heap.size + 1) 25 #[.int .i64 0, .int .i64 0, .int .i64 0, .int .i64 0, .int .i64 0, .int .i64 0, .int .i64 0, .int .i64 0] := HQ0.out.keepR HR0.out O; have kr1 := P.rowOf; have kp1 := P.plain; have kl1 := P.lt; have qr1 := Q.rowOf; have qp1 := Q.plain; have ql1 := Q.lt; have HP1 := Lib.hid P; have HQ1 := Lib.hid Q; have HR1 := Lib.hid R; have HO1 := Lib.hid (HO0.out.trans O); clear P Q R O)
    | (go_at_call 38; refine (number_at _ b _ HR1.out).mono ?_; rintro e w2 ⟨rfl, R, O⟩; have P : Blk w2 w.heap.size 25 #[.int .i64 0, .int .i64 0, .int .i64 0, .int .i64 0, .int .i64 0, .int .i64 0, .int .i64 0, .int .i64 0] := HP1.out.keepR HR1.out O; have Q : Blk w2 (w.heap.size + 1) 25 #[.int .i64 0, .int .i64 0, .int .i64 0, .int .i64 0, .int .i64 0, .int .i64 0, .int .i64 0, .int .i64 0] := HQ1.out.keepR HR1.out O; have kr2 := P.rowOf; have kp2 := P.plain; have kl2 := P.lt; have qr2 := Q.rowOf; have qp2 := Q.plain; have ql2 := Q.lt; have HP2 := Lib.hid P; have HQ2 := Lib.hid Q; have HR2 := Lib.hid R; have HO2 := Lib.hid (HO1.out.trans O); clear P Q R O)
    | (go_at_call 38; refine (number_at _ b _ HR2.out).mono ?_; rintro e w3 ⟨rfl, R, O⟩; have P : Blk w3 w.heap.size 25 #[.int .i64 0, .int .i64 0, .int .i64 0, .int .i64 0, .int .i64 0, .int .i64 0, .int .i64 0, .int .i64 0] := HP2.out.keepR HR2.out O; have Q : Blk w3 (w.heap.size + 1) 25 #[.int .i64 0, .int .i64 0, .int .i64 0, .int .i64 0, .int .i64 0, .int .i64 0, .int .i64 0, .int .i64 0] := HQ2.out.keepR HR2.out O; have kr3 := P.rowOf; have kp3 := P.plain; have kl3 := P.lt; have qr3 := Q.rowOf; have qp3 := Q.plain; have ql3 := Q.lt; have qc3_1 : w3.cell? ⟨w.heap.size + 1, 1, none⟩ = some (.int .i64 0) := Q.cell 1; have qf3_1 := Q.frozen 1; have qc3_2 : w3.cell? ⟨w.heap.size + 1, 2, none⟩ = some (.int .i64 0) := Q.cell 2; have qf3_2 := Q.frozen 2; have HP3 := Lib.hid P; have HQ3 := Lib.hid Q; have HR3 := Lib.hid R; have HO3 := Lib.hid (HO2.out.trans O); clear P Q R O)
    | (go_at_call 54; refine (perm_at _ b _ ((HR3.out.cel HQ3.out 1 _).cel (HQ3.out.set_ 1 _) 2 _)).mono ?_; rintro e w4 ⟨rfl, R, O⟩; have P : Blk w4 w.heap.size 25 #[.int .i64 0, .int .i64 0, .int .i64 0, .int .i64 0, .int .i64 0, .int .i64 0, .int .i64 0, .int .i64 0] := ((HP3.out.setOther 1 _ nq).setOther 2 _ nq).keepR ((HR3.out.cel HQ3.out 1 _).cel (HQ3.out.set_ 1 _) 2 _) O; have Q : Blk w4 (w.heap.size + 1) 25 #[.int .i64 0, .int .i64 (r1.number.1), .int .i64 (r1.number.2.number.1), .int .i64 0, .int .i64 0, .int .i64 0, .int .i64 0, .int .i64 0] := ((HQ3.out.set_ 1 _).set_ 2 _).keepR ((HR3.out.cel HQ3.out 1 _).cel (HQ3.out.set_ 1 _) 2 _) O; have kr4 := P.rowOf; have kp4 := P.plain; have kl4 := P.lt; have qr4 := Q.rowOf; have qp4 := Q.plain; have ql4 := Q.lt; have HP4 := Lib.hid P; have HQ4 := Lib.hid Q; have HR4 := Lib.hid R; have HO4 := Lib.hid (((HO3.out.setCell (p := ⟨w.heap.size + 1, 1, none⟩) (.inr (Nat.le_succ _)) _).setCell (p := ⟨w.heap.size + 1, 2, none⟩) (.inr (Nat.le_succ _)) _).trans O); clear P Q R O)
    | (go_at_call 55; refine (policy_at _ b _ HR4.out).mono ?_; unfold polV; rintro e w5 ⟨rfl, R, O⟩; have P : Blk w5 w.heap.size 25 #[.int .i64 0, .int .i64 0, .int .i64 0, .int .i64 0, .int .i64 0, .int .i64 0, .int .i64 0, .int .i64 0] := HP4.out.keepR HR4.out O; have Q : Blk w5 (w.heap.size + 1) 25 #[.int .i64 0, .int .i64 (r1.number.1), .int .i64 (r1.number.2.number.1), .int .i64 0, .int .i64 0, .int .i64 0, .int .i64 0, .int .i64 0] := HQ4.out.keepR HR4.out O; have kr5 := P.rowOf; have kp5 := P.plain; have kl5 := P.lt; have qr5 := Q.rowOf; have qp5 := Q.plain; have ql5 := Q.lt; have qc5_0 : w5.cell? ⟨w.heap.size + 1, 0, none⟩ = some (.int .i64 0) := Q.cell 0; have qf5_0 := Q.frozen 0; have qc5_3 : w5.cell? ⟨w.heap.size + 1, 3, none⟩ = some (.int .i64 0) := Q.cell 3; have qf5_3 := Q.frozen 3; have HP5 := Lib.hid P; have HQ5 := Lib.hid Q; have HR5 := Lib.hid R; have HO5 := Lib.hid (HO4.out.trans O); clear P Q R O))
  refine bodyPost_ret (results_cell1 rfl _ _ rfl (run_loadVar_blk _ _ _ 25 25 (Cl.arr ({ c0 with page := r1.number.1, pages := r1.number.2.number.1, kind := 1, perm := r1.number.2.number.2.perm.1, pk := r1.number.2.number.2.perm.2.policy.1.1, pn := r1.number.2.number.2.perm.2.policy.1.2 })) _ 8 ((((HP5.out.setOther 0 _ nq).setOther 3 _ nq).rowOther _ nq).row_ _) Tryz.underlying25 rfl (by kernel_rfl) (by simp [Cl.arr]))) rfl ?_
  exact ⟨rfl, (((HR5.out.cel HQ5.out 0 _).cel (HQ5.out.set_ 0 _) 3 _).row ((HQ5.out.set_ 0 _).set_ 3 _) _).row (((HP5.out.setOther 0 _ nq).setOther 3 _ nq).rowOther _ nq) _, (((HO5.out.setCell (p := ⟨w.heap.size + 1, 0, none⟩) (.inr (Nat.le_succ _)) _).setCell (p := ⟨w.heap.size + 1, 3, none⟩) (.inr (Nat.le_succ _)) _).setRow (.inr (Nat.le_succ _)) _).setRow (.inr (Nat.le_refl _)) _⟩

set_option maxRecDepth 100000 in
set_option maxHeartbeats 4000000 in
theorem call_none (w : World) (b : Nat) (r r1 : Rd) (x : Wd) (h : RdrAt w b r) (hx : r.word.1 = x) (hr1 : r.word.2 = r1) (h_kLoad : x ≠ kLoad) (h_kStore : x ≠ kStore) (h_kMap : x ≠ kMap) (h_kUnmap : x ≠ kUnmap) (h_kProtect : x ≠ kProtect) (h_kBind : x ≠ kBind) :
    Calls Tryz.prog 37 #[.pointer (some ⟨b, 0, none⟩)] w fun e w' => e = .returned (.agg (Cl.arr ({ c0 with page := r1.number.1, pages := r1.number.2.number.1 }))) ∧ RdrAt w' b ({ r1.number.2.number.2 with bad := true }) ∧ But b w w' := by
  have hlt := h.lt
  have n2 : ¬ w.heap.size = b := fun e => (by omega)
  have n3 : ¬ w.heap.size + 1 = b := fun e => (by omega)
  have nq : w.heap.size + 1 ≠ w.heap.size := fun e => (by omega)
  have P : Blk ((w.alloc (.cells #[.int .i64 0, .int .i64 0, .int .i64 0, .int .i64 0, .int .i64 0, .int .i64 0, .int .i64 0, .int .i64 0] 25)).alloc (.cells #[.int .i64 0, .int .i64 0, .int .i64 0, .int .i64 0, .int .i64 0, .int .i64 0, .int .i64 0, .int .i64 0] 25)) w.heap.size 25 #[.int .i64 0, .int .i64 0, .int .i64 0, .int .i64 0, .int .i64 0, .int .i64 0, .int .i64 0, .int .i64 0] := (Blk.new _ _ _).new2 _
  have Q : Blk ((w.alloc (.cells #[.int .i64 0, .int .i64 0, .int .i64 0, .int .i64 0, .int .i64 0, .int .i64 0, .int .i64 0, .int .i64 0] 25)).alloc (.cells #[.int .i64 0, .int .i64 0, .int .i64 0, .int .i64 0, .int .i64 0, .int .i64 0, .int .i64 0, .int .i64 0] 25)) (w.heap.size + 1) 25 #[.int .i64 0, .int .i64 0, .int .i64 0, .int .i64 0, .int .i64 0, .int .i64 0, .int .i64 0, .int .i64 0] := by
    have := Blk.new (w.alloc (.cells #[.int .i64 0, .int .i64 0, .int .i64 0, .int .i64 0, .int .i64 0, .int .i64 0, .int .i64 0, .int .i64 0] 25)) 25 #[.int .i64 0, .int .i64 0, .int .i64 0, .int .i64 0, .int .i64 0, .int .i64 0, .int .i64 0, .int .i64 0]
    rwa [World.size_alloc] at this
  have R := (h.new (.cells #[.int .i64 0, .int .i64 0, .int .i64 0, .int .i64 0, .int .i64 0, .int .i64 0, .int .i64 0, .int .i64 0] 25)).new (.cells #[.int .i64 0, .int .i64 0, .int .i64 0, .int .i64 0, .int .i64 0, .int .i64 0, .int .i64 0, .int .i64 0] 25)
  have O : But b w ((w.alloc (.cells #[.int .i64 0, .int .i64 0, .int .i64 0, .int .i64 0, .int .i64 0, .int .i64 0, .int .i64 0, .int .i64 0] 25)).alloc (.cells #[.int .i64 0, .int .i64 0, .int .i64 0, .int .i64 0, .int .i64 0, .int .i64 0, .int .i64 0, .int .i64 0] 25)) := ((Only.refl (· = b) w).alloc _).alloc _
  have hw := word_at _ b r R
  rw [hx, hr1] at hw
  obtain ⟨s, hs⟩ : ∃ s, bs x = s := ⟨_, rfl⟩
  have htl : s.toList = x := by rw [← hs]; exact bs_toList x
  rw [hs] at hw
  have HW := Lib.hid hw
  have HP0 := Lib.hid P
  have HQ0 := Lib.hid Q
  have HR0 := Lib.hid R
  have HO0 := Lib.hid O
  clear hx hr1 h hw hs P Q R O
  have g_kLoad : (x == [108, 111, 97, 100]) = false := by simpa using h_kLoad
  have g_kStore : (x == [115, 116, 111, 114, 101]) = false := by simpa using h_kStore
  have g_kMap : (x == [109, 97, 112]) = false := by simpa using h_kMap
  have g_kUnmap : (x == [117, 110, 109, 97, 112]) = false := by simpa using h_kUnmap
  have g_kProtect : (x == [112, 114, 111, 116, 101, 99, 116]) = false := by simpa using h_kProtect
  have g_kBind : (x == [98, 105, 110, 100]) = false := by simpa using h_kBind
  go_enter Tryz.func37, Tryz.ntmps37
  go_wp2_with (first
    | (go_at_call 35; refine (HW.out).mono ?_; rintro e w1 ⟨rfl, R, O⟩; have P : Blk w1 w.heap.size 25 #[.int .i64 0, .int .i64 0, .int .i64 0, .int .i64 0, .int .i64 0, .int .i64 0, .int .i64 0, .int .i64 0] := HP0.out.keepR HR0.out O; have Q : Blk w1 (w.heap.size + 1) 25 #[.int .i64 0, .int .i64 0, .int .i64 0, .int .i64 0, .int .i64 0, .int .i64 0, .int .i64 0, .int .i64 0] := HQ0.out.keepR HR0.out O; have kr1 := P.rowOf; have kp1 := P.plain; have kl1 := P.lt; have qr1 := Q.rowOf; have qp1 := Q.plain; have ql1 := Q.lt; have HP1 := Lib.hid P; have HQ1 := Lib.hid Q; have HR1 := Lib.hid R; have HO1 := Lib.hid (HO0.out.trans O); clear P Q R O)
    | (go_at_call 38; refine (number_at _ b _ HR1.out).mono ?_; rintro e w2 ⟨rfl, R, O⟩; have P : Blk w2 w.heap.size 25 #[.int .i64 0, .int .i64 0, .int .i64 0, .int .i64 0, .int .i64 0, .int .i64 0, .int .i64 0, .int .i64 0] := HP1.out.keepR HR1.out O; have Q : Blk w2 (w.heap.size + 1) 25 #[.int .i64 0, .int .i64 0, .int .i64 0, .int .i64 0, .int .i64 0, .int .i64 0, .int .i64 0, .int .i64 0] := HQ1.out.keepR HR1.out O; have kr2 := P.rowOf; have kp2 := P.plain; have kl2 := P.lt; have qr2 := Q.rowOf; have qp2 := Q.plain; have ql2 := Q.lt; have HP2 := Lib.hid P; have HQ2 := Lib.hid Q; have HR2 := Lib.hid R; have HO2 := Lib.hid (HO1.out.trans O); clear P Q R O)
    | (go_at_call 38; refine (number_at _ b _ HR2.out).mono ?_; rintro e w3 ⟨rfl, R, O⟩; have P : Blk w3 w.heap.size 25 #[.int .i64 0, .int .i64 0, .int .i64 0, .int .i64 0, .int .i64 0, .int .i64 0, .int .i64 0, .int .i64 0] := HP2.out.keepR HR2.out O; have Q : Blk w3 (w.heap.size + 1) 25 #[.int .i64 0, .int .i64 0, .int .i64 0, .int .i64 0, .int .i64 0, .int .i64 0, .int .i64 0, .int .i64 0] := HQ2.out.keepR HR2.out O; have kr3 := P.rowOf; have kp3 := P.plain; have kl3 := P.lt; have qr3 := Q.rowOf; have qp3 := Q.plain; have ql3 := Q.lt; have qc3_1 : w3.cell? ⟨w.heap.size + 1, 1, none⟩ = some (.int .i64 0) := Q.cell 1; have qf3_1 := Q.frozen 1; have qc3_2 : w3.cell? ⟨w.heap.size + 1, 2, none⟩ = some (.int .i64 0) := Q.cell 2; have qf3_2 := Q.frozen 2; have hR := R; obtain ⟨q, hb, _⟩ := hR; have d1 := hb.cell 1; have f1 := hb.frozen 1; have hl2 := hb.lt; clear hb; have HP3 := Lib.hid P; have HQ3 := Lib.hid Q; have HR3 := Lib.hid R; have HO3 := Lib.hid (HO2.out.trans O); clear P Q R O))
  refine bodyPost_ret (results_cell1 rfl _ _ rfl (run_loadVar_blk _ _ _ 25 25 (Cl.arr ({ c0 with page := r1.number.1, pages := r1.number.2.number.1 })) _ 8 ((((HP3.out.setOther 1 _ nq).setOther 2 _ nq).setOther 1 _ (Ne.symm n2)).row_ _) Tryz.underlying25 rfl (by kernel_rfl) (by simp [Cl.arr]))) rfl ?_
  exact ⟨rfl, (((HR3.out.cel HQ3.out 1 _).cel (HQ3.out.set_ 1 _) 2 _).setBad true).row (((HP3.out.setOther 1 _ nq).setOther 2 _ nq).setOther 1 _ (Ne.symm n2)) _, (((HO3.out.setCell (p := ⟨w.heap.size + 1, 1, none⟩) (.inr (Nat.le_succ _)) _).setCell (p := ⟨w.heap.size + 1, 2, none⟩) (.inr (Nat.le_succ _)) _).setCell (p := ⟨b, 1, none⟩) (.inl rfl) _).setRow (.inr (Nat.le_refl _)) _⟩

theorem call_at (w : World) (b : Nat) (r : Rd) (h : RdrAt w b r) : Calls Tryz.prog 37 #[.pointer (some ⟨b, 0, none⟩)] w fun e w' => e = .returned (.agg r.call.1.arr) ∧ RdrAt w' b r.call.2 ∧ But b w w' := by
  unfold Rd.call
  by_cases h1 : r.word.1 = kLoad
  · rw [if_pos h1]; exact call_load w b r _ _ h rfl rfl h1
  · rw [if_neg h1]
    by_cases h2 : r.word.1 = kStore
    · rw [if_pos h2]; exact call_store w b r _ _ h rfl rfl h2
    · rw [if_neg h2]
      by_cases h3 : r.word.1 = kMap
      · rw [if_pos h3]; exact call_map w b r _ _ h rfl rfl h3
      · rw [if_neg h3]
        by_cases h4 : r.word.1 = kUnmap
        · rw [if_pos h4]; exact call_unmap w b r _ _ h rfl rfl h4
        · rw [if_neg h4]
          by_cases h5 : r.word.1 = kProtect
          · rw [if_pos h5]; exact call_protect w b r _ _ h rfl rfl h5
          · rw [if_neg h5]
            by_cases h6 : r.word.1 = kBind
            · rw [if_pos h6]; exact call_bind w b r _ _ h rfl rfl h6
            · rw [if_neg h6]; exact call_none w b r _ _ h rfl rfl h1 h2 h3 h4 h5 h6
end Go.Proofs.YtccoafacbbkooaaGreatDoor
