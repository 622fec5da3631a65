/- Script: ScriptLines walked. -/
import Derived.Test.YtccoafacbbkooaaGreatDoorScLe
namespace Go.Proofs.YtccoafacbbkooaaGreatDoor
open Go.RowKit Go.Maps

theorem LineP_some {x : Itm} {l : Wd} (h : LineP x = some l) : l = lineP x ∧ readP (wordsL l) = some x := by
  unfold LineP at h
  split at h
  · rename_i hr
    have := Option.some.inj h
    subst this
    exact ⟨rfl, hr⟩
  · cases h
set_option maxRecDepth 100000 in
set_option maxHeartbeats 4000000 in
theorem lines_w (w : World) (x : Itm) (h : Wide x) (ht : Tab w) (hm : MaxAt w) :
    Calls Tryz.prog 3 #[.agg x.arr] w fun e w' => e = .returned (.bool true) ∧ Below w.heap.size w w' := by
  have B0 : Below w.heap.size w (w.alloc (.cells x.arr 29)) := (Below.refl _ _).alloc (Nat.le_refl _) _
  have P0 : Blk (w.alloc (.cells x.arr 29)) w.heap.size 29 x.arr := Blk.new _ _ _
  have hl := Line_w _ x h (ht.below B0) (hm.below B0)
  have hq := fun (W : World) => Line_r W x
  rw [← Line_same x] at hq
  have hlen := lineP_len x h
  cases hp : LineP x with
  | none =>
    rw [hp] at hl
    simp only [hp] at hq
    have e1 : lineV none = .tuple #[.string { data := #[] }, .int .i64 5] := rfl
    rw [e1] at hl
    simp only [e1] at hq
    have HL := Lib.hid hl
    have HQ := Lib.hid hq
    have HM := Lib.hid hm
    have HP0 := Lib.hid P0
    have HB0 := Lib.hid B0
    clear hl hq hm P0 B0 e1 hp ht h hlen
    go_enter Tryz.func3, Tryz.ntmps3
    go_wp2_with (first
      | (go_at_call 5; refine (HL.out).mono ?_; rintro e w1 ⟨rfl, B⟩; have P := HP0.out.below B HP0.out.lt; have kr := P.rowOf; have kp := P.plain; have kl := P.lt; have HP1 := Lib.hid P; have HB1 := Lib.hid (HB0.out.trans (B.mono (by simp))); clear B P)
      | (go_at_call 6; refine (HQ.out _).mono ?_; rintro e w2 ⟨rfl, B⟩; have HB2 := Lib.hid (HB1.out.trans (B.mono HB1.out.size)); clear B)
      | (go_at_call 7; refine (awake_w _ (HM.out.below HB2.out)).mono ?_; rintro e w3 ⟨rfl, B⟩))
    go_ret
    exact ⟨rfl, HB2.out.trans (B.mono HB2.out.size)⟩
  | some l =>
    obtain ⟨hl1, hr1⟩ := LineP_some hp
    rw [hp] at hl
    simp only [hp] at hq
    obtain ⟨s, hs⟩ : ∃ s, bs l = s := ⟨_, rfl⟩
    have e1 : lineV (some l) = .tuple #[.string s, .int .i64 0] := by rw [← hs]; rfl
    rw [e1] at hl
    simp only [e1] at hq
    have hr := fun (W : World) (hM : MaxAt W) => read_w W l hM (by rw [hl1]; omega)
    have e2 : resV (some x) = .tuple #[.agg x.arr, .int .i64 0] := rfl
    simp only [hr1, hs, e2] at hr
    have hd : decide (x = x) = true := decide_eq_true rfl
    have hss : (s.toList == s.toList) = true := by simp
    have HL := Lib.hid hl
    have HQ := Lib.hid hq
    have HR := Lib.hid hr
    have HM := Lib.hid hm
    have HP0 := Lib.hid P0
    have HB0 := Lib.hid B0
    clear hl hq hm P0 B0 e1 hp ht h hlen hr e2 hr1 hl1 hs
    go_enter Tryz.func3, Tryz.ntmps3
    go_wp2_with (first
      | (go_at_call 5; refine (HL.out).mono ?_; rintro e w1 ⟨rfl, B⟩; have P := HP0.out.below B HP0.out.lt; have kr := P.rowOf; have kp := P.plain; have kl := P.lt; have HP1 := Lib.hid P; have HB1 := Lib.hid (HB0.out.trans (B.mono (by simp))); clear B P)
      | (go_at_call 6; refine (HQ.out _).mono ?_; rintro e w2 ⟨rfl, B⟩; have P := HP1.out.below B HP1.out.lt; have kr2 := P.rowOf; have kp2 := P.plain; have kl2 := P.lt; have HP2 := Lib.hid P; have HB2 := Lib.hid (HB1.out.trans (B.mono HB1.out.size)); clear B P)
      | (go_at_call 8; refine (HR.out _ (HM.out.below HB2.out)).mono ?_; rintro e w3 ⟨rfl, B⟩; have P := HP2.out.below B HP2.out.lt; have kr3 := P.rowOf; have kp3 := P.plain; have kl3 := P.lt; have HB3 := Lib.hid (HB2.out.trans (B.mono HB2.out.size)); clear B P)
      | (go_at_call 7; refine (awake_w _ (HM.out.below (HB3.out.alloc HB3.out.size _))).mono ?_; rintro e w4 ⟨rfl, B⟩))
    go_ret
    exact ⟨rfl, (HB3.out.alloc HB3.out.size _).trans (B.mono (by have := HB3.out.size; simp; omega))⟩
end Go.Proofs.YtccoafacbbkooaaGreatDoor
