/- Script: script.Read. -/
import Derived.Test.YtccoafacbbkooaaGreatDoorScH
namespace Go.Proofs.YtccoafacbbkooaaGreatDoor
open Go.RowKit

theorem bd39 (w : World) (a : Option Addr) (n c : Nat) : (Instr.build 51 #[(0, .slice a n c)]).run Tryz.prog w = .ok (.agg #[.slice a n c, .bool false]) w := by kernel_rfl
attribute [local go_sem] bd39
/-- What Read tells. -/
def resV (o : Option Itm) : Value := .tuple #[.agg (o.getD i0).arr, .int .i64 (if o.isSome then 0 else 5)]
/-- The length of the world's one number that strings.Split asks. -/
abbrev MaxAt (w : World) : Prop := ∃ m, w.cell? ⟨Tryz.laysM146_ren.g 1, 0, none⟩ = some (.int .i64 m)
theorem MaxAt.below {w w' : World} (h : MaxAt w) (hb : Below w.heap.size w w') : MaxAt w' := by
  obtain ⟨m, hm⟩ := h
  refine ⟨m, ?_⟩
  have hlt : Tryz.laysM146_ren.g 1 < w.heap.size := by
    by_cases hn : Tryz.laysM146_ren.g 1 < w.heap.size
    · exact hn
    · have h0 : w.heap[Tryz.laysM146_ren.g 1]? = none := Array.getElem?_eq_none (by omega)
      simp [World.cell?, h0] at hm
  rw [World.cell?_of_block (hb.block _ hlt)]
  exact hm
theorem words_at (w : World) (x : Wd) (v : Bool) : RdrAt ((w.alloc (.cells ((wordsL x).map fun y => Value.string (bs y)).toArray 9)).alloc (.cells #[.slice (some ⟨w.heap.size, 0, none⟩) (wordsL x).length (wordsL x).length, .bool v] 51)) (w.heap.size + 1) ⟨wordsL x, v⟩ := by
  have h := Blk.new w 9 ((wordsL x).map fun y => Value.string (bs y)).toArray
  have h2 := Blk.new (w.alloc (.cells ((wordsL x).map fun y => Value.string (bs y)).toArray 9)) 51 #[.slice (some ⟨w.heap.size, 0, none⟩) (wordsL x).length (wordsL x).length, .bool v]
  rw [World.size_alloc] at h2
  refine ⟨_, h2, _, _, rfl, Nat.le_refl _, .inr ⟨_, 0, _, rfl, h.new2 _, by simp, fun j y hj => ?_⟩⟩
  have hj' : (wordsL x)[j]? = some y := hj
  simp [hj']
set_option maxRecDepth 100000 in
set_option maxHeartbeats 4000000 in
theorem read_w (w : World) (x : Wd) (hm : MaxAt w) (hs : x.length < 4294967281) :
    Calls Tryz.prog 8 #[.string (bs x)] w fun e w' => e = .returned (resV (readP (wordsL x))) ∧ Below w.heap.size w w' := by
  have B0 : Below w.heap.size w (w.alloc (.cells i0.arr 29)) := (Below.refl _ _).alloc (Nat.le_refl _) _
  obtain ⟨m, hm0⟩ := hm.below B0
  have hw := split_w _ x m hm0 hs
  have R0 := words_at (w.alloc (.cells i0.arr 29)) x false
  have P0 : Blk (w.alloc (.cells i0.arr 29)) w.heap.size 29 i0.arr := Blk.new _ _ _
  have P2 := (P0.new2 (.cells ((wordsL x).map fun y => Value.string (bs y)).toArray 9)).new2 (.cells #[.slice (some ⟨w.heap.size + 1, 0, none⟩) (wordsL x).length (wordsL x).length, .bool false] 51)
  have B2 := (B0.alloc (Nat.le_of_lt P0.lt) (.cells ((wordsL x).map fun y => Value.string (bs y)).toArray 9)).alloc (by simp; omega) (.cells #[.slice (some ⟨w.heap.size + 1, 0, none⟩) (wordsL x).length (wordsL x).length, .bool false] 51)
  rw [World.size_alloc] at R0 hw
  have hi := item_at _ _ _ R0
  obtain ⟨y, hy⟩ : ∃ y, Rd.item ⟨wordsL x, false⟩ = y := ⟨_, rfl⟩
  have e1 : readP (wordsL x) = if y.2.bad || !y.2.ws.isEmpty then none else some y.1 := by unfold readP; rw [hy]
  rw [e1]
  rw [hy] at hi
  obtain ⟨it, ws, bad⟩ := y
  obtain ⟨s, hs⟩ : ∃ s, bs x = s := ⟨_, rfl⟩
  rw [hs] at hw ⊢
  obtain ⟨N, hN⟩ : ∃ N, (wordsL x).length = N := ⟨_, rfl⟩
  rw [hN] at hw hi P2 B2 R0
  obtain ⟨cs, hcs⟩ : ∃ cs, ((wordsL x).map fun y => Value.string (bs y)).toArray = cs := ⟨_, rfl⟩
  rw [hcs] at hw hi P2 B2 R0
  unfold i0 c0 Itm.arr at hw hi P2 B2 R0
  simp only at hw hi P2 B2 R0
  have HW := Lib.hid hw
  have HI := Lib.hid hi
  have HP := Lib.hid P2
  have HB := Lib.hid B2
  have HR := Lib.hid R0
  clear hy e1 hs hN hcs hw hi P2 B2 R0 B0 P0 hm hm0
  cases bad
  · cases ws
    · go_enter Tryz.func8, Tryz.ntmps8
      go_wp2_with (first
        | (go_at_call 17; refine (HW.out).mono ?_; rintro e w1 ⟨rfl, rfl⟩)
        | (go_at_call 18; refine (HI.out).mono ?_; rintro e w3 ⟨rfl, R, O⟩; have P := HP.out.keepR HR.out O; have kr := P.rowOf; have kp := P.plain; have kl := P.lt; have kl1 := Nat.lt_succ_of_lt kl; have ne1 : ¬ w.heap.size = w3.heap.size := Nat.ne_of_lt kl; obtain ⟨q, hb, hq⟩ := R; obtain ⟨a, c, rfl, _⟩ := hq; have d0 := hb.cell 0; have d1 := hb.cell 1; have hl := hb.lt; have B3 := HB.out.trans (O.below (B := w.heap.size) (by simp; omega) (fun k hk => (by subst hk; omega))); have HP3 := Lib.hid P; have HB3 := Lib.hid B3; clear P O hb B3))
      refine bodyPost_ret (results_cellTmp rfl _ _ rfl (run_loadVar_blk _ _ _ 29 29 (Itm.arr it) _ 14 ((HP3.out.new2 _).row_ _) Tryz.underlying29 rfl (by kernel_rfl) (by simp [Itm.arr]))) rfl ?_
      exact ⟨rfl, Below.setRow (HB3.out.alloc (Nat.le_of_lt kl) _) (Nat.le_refl _) _⟩
    · go_enter Tryz.func8, Tryz.ntmps8
      go_wp2_with (first
        | (go_at_call 17; refine (HW.out).mono ?_; rintro e w1 ⟨rfl, rfl⟩)
        | (go_at_call 18; refine (HI.out).mono ?_; rintro e w3 ⟨rfl, R, O⟩; have P := HP.out.keepR HR.out O; have kr := P.rowOf; have kp := P.plain; have kl := P.lt; have kl1 := Nat.lt_succ_of_lt kl; have ne1 : ¬ w.heap.size = w3.heap.size := Nat.ne_of_lt kl; obtain ⟨q, hb, hq⟩ := R; obtain ⟨a, c, rfl, _⟩ := hq; have d0 := hb.cell 0; have d1 := hb.cell 1; have hl := hb.lt; have B3 := HB.out.trans (O.below (B := w.heap.size) (by simp; omega) (fun k hk => (by subst hk; omega))); have HP3 := Lib.hid P; have HB3 := Lib.hid B3; clear P O hb B3))
      refine bodyPost_ret (results_cellTmp rfl _ _ rfl (run_loadVar_blk _ _ _ 29 29 (Itm.arr i0) _ 14 ((HP3.out.new2 _).row_ _) Tryz.underlying29 rfl (by kernel_rfl) (by simp [Itm.arr]))) rfl ?_
      exact ⟨rfl, Below.setRow (HB3.out.alloc (Nat.le_of_lt kl) _) (Nat.le_refl _) _⟩
  · go_enter Tryz.func8, Tryz.ntmps8
    go_wp2_with (first
      | (go_at_call 17; refine (HW.out).mono ?_; rintro e w1 ⟨rfl, rfl⟩)
      | (go_at_call 18; refine (HI.out).mono ?_; rintro e w3 ⟨rfl, R, O⟩; have P := HP.out.keepR HR.out O; have kr := P.rowOf; have kp := P.plain; have kl := P.lt; have kl1 := Nat.lt_succ_of_lt kl; have ne1 : ¬ w.heap.size = w3.heap.size := Nat.ne_of_lt kl; obtain ⟨q, hb, hq⟩ := R; obtain ⟨a, c, rfl, _⟩ := hq; have d0 := hb.cell 0; have d1 := hb.cell 1; have hl := hb.lt; have B3 := HB.out.trans (O.below (B := w.heap.size) (by simp; omega) (fun k hk => (by subst hk; omega))); have HP3 := Lib.hid P; have HB3 := Lib.hid B3; clear P O hb B3))
    refine bodyPost_ret (results_cellTmp rfl _ _ rfl (run_loadVar_blk _ _ _ 29 29 (Itm.arr i0) _ 14 ((HP3.out.new2 _).row_ _) Tryz.underlying29 rfl (by kernel_rfl) (by simp [Itm.arr]))) rfl ?_
    exact ⟨rfl, Below.setRow (HB3.out.alloc (Nat.le_of_lt kl) _) (Nat.le_refl _) _⟩
end Go.Proofs.YtccoafacbbkooaaGreatDoor
