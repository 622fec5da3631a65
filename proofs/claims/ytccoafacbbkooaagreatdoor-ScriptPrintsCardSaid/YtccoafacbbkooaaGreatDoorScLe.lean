/- Script: the reference's Line. Printed by mkScLe.py. -/
import Derived.Test.YtccoafacbbkooaaGreatDoorScLd
namespace Go.Proofs.YtccoafacbbkooaaGreatDoor
open Go.RowKit Go.Maps

set_option maxRecDepth 100000 in
set_option maxHeartbeats 4000000 in
theorem rl_no_o (w : World) (k o c0 c1 c2 c3 c4 c5 c6 c7 jk jp jn n : Int)  (ho : may o = false) :
    Calls Tryz.prog 6 #[.agg #[.int .i64 k, .int .i64 o, .int .i64 c0, .int .i64 c1, .int .i64 c2, .int .i64 c3, .int .i64 c4, .int .i64 c5, .int .i64 c6, .int .i64 c7, .int .i64 jk, .int .i64 jp, .int .i64 jn, .int .i64 n]] w fun e w' => e = .returned (.tuple #[.string { data := #[] }, .int .i64 5]) ∧ Below w.heap.size w w' := by
  go_enter Tryz.func6, Tryz.ntmps6
  go_wp2_with (go_at_call 14; refine (may_r _ _).mono ?_; rintro e w9 ⟨rfl, rfl⟩)
  go_ret2
  exact ⟨rfl, (Below.refl _ _).alloc (Nat.le_refl _) _⟩

set_option maxRecDepth 100000 in
set_option maxHeartbeats 4000000 in
theorem rl_no_n (w : World) (k o c0 c1 c2 c3 c4 c5 c6 c7 jk jp jn n : Int) (ho : may o = true) (hn : may n = false) :
    Calls Tryz.prog 6 #[.agg #[.int .i64 k, .int .i64 o, .int .i64 c0, .int .i64 c1, .int .i64 c2, .int .i64 c3, .int .i64 c4, .int .i64 c5, .int .i64 c6, .int .i64 c7, .int .i64 jk, .int .i64 jp, .int .i64 jn, .int .i64 n]] w fun e w' => e = .returned (.tuple #[.string { data := #[] }, .int .i64 5]) ∧ Below w.heap.size w w' := by
  go_enter Tryz.func6, Tryz.ntmps6
  go_wp2_with (go_at_call 14; refine (may_r _ _).mono ?_; rintro e w9 ⟨rfl, rfl⟩)
  go_ret2
  exact ⟨rfl, (Below.refl _ _).alloc (Nat.le_refl _) _⟩

set_option maxRecDepth 100000 in
set_option maxHeartbeats 4000000 in
theorem rl_no_c1 (w : World) (k o c0 c1 c2 c3 c4 c5 c6 c7 jk jp jn n : Int) (ho : may o = true) (hn : may n = true) (hc1 : may c1 = false) :
    Calls Tryz.prog 6 #[.agg #[.int .i64 k, .int .i64 o, .int .i64 c0, .int .i64 c1, .int .i64 c2, .int .i64 c3, .int .i64 c4, .int .i64 c5, .int .i64 c6, .int .i64 c7, .int .i64 jk, .int .i64 jp, .int .i64 jn, .int .i64 n]] w fun e w' => e = .returned (.tuple #[.string { data := #[] }, .int .i64 5]) ∧ Below w.heap.size w w' := by
  go_enter Tryz.func6, Tryz.ntmps6
  go_wp2_with (go_at_call 14; refine (may_r _ _).mono ?_; rintro e w9 ⟨rfl, rfl⟩)
  go_ret2
  exact ⟨rfl, (Below.refl _ _).alloc (Nat.le_refl _) _⟩

set_option maxRecDepth 100000 in
set_option maxHeartbeats 4000000 in
theorem rl_no_c2 (w : World) (k o c0 c1 c2 c3 c4 c5 c6 c7 jk jp jn n : Int) (ho : may o = true) (hn : may n = true) (hc1 : may c1 = true) (hc2 : may c2 = false) :
    Calls Tryz.prog 6 #[.agg #[.int .i64 k, .int .i64 o, .int .i64 c0, .int .i64 c1, .int .i64 c2, .int .i64 c3, .int .i64 c4, .int .i64 c5, .int .i64 c6, .int .i64 c7, .int .i64 jk, .int .i64 jp, .int .i64 jn, .int .i64 n]] w fun e w' => e = .returned (.tuple #[.string { data := #[] }, .int .i64 5]) ∧ Below w.heap.size w w' := by
  go_enter Tryz.func6, Tryz.ntmps6
  go_wp2_with (go_at_call 14; refine (may_r _ _).mono ?_; rintro e w9 ⟨rfl, rfl⟩)
  go_ret2
  exact ⟨rfl, (Below.refl _ _).alloc (Nat.le_refl _) _⟩

set_option maxRecDepth 100000 in
set_option maxHeartbeats 4000000 in
theorem rl_no_c6 (w : World) (k o c0 c1 c2 c3 c4 c5 c6 c7 jk jp jn n : Int) (ho : may o = true) (hn : may n = true) (hc1 : may c1 = true) (hc2 : may c2 = true) (hc6 : may c6 = false) :
    Calls Tryz.prog 6 #[.agg #[.int .i64 k, .int .i64 o, .int .i64 c0, .int .i64 c1, .int .i64 c2, .int .i64 c3, .int .i64 c4, .int .i64 c5, .int .i64 c6, .int .i64 c7, .int .i64 jk, .int .i64 jp, .int .i64 jn, .int .i64 n]] w fun e w' => e = .returned (.tuple #[.string { data := #[] }, .int .i64 5]) ∧ Below w.heap.size w w' := by
  go_enter Tryz.func6, Tryz.ntmps6
  go_wp2_with (go_at_call 14; refine (may_r _ _).mono ?_; rintro e w9 ⟨rfl, rfl⟩)
  go_ret2
  exact ⟨rfl, (Below.refl _ _).alloc (Nat.le_refl _) _⟩

set_option maxRecDepth 100000 in
set_option maxHeartbeats 4000000 in
theorem rl_no_c7 (w : World) (k o c0 c1 c2 c3 c4 c5 c6 c7 jk jp jn n : Int) (ho : may o = true) (hn : may n = true) (hc1 : may c1 = true) (hc2 : may c2 = true) (hc6 : may c6 = true) (hc7 : may c7 = false) :
    Calls Tryz.prog 6 #[.agg #[.int .i64 k, .int .i64 o, .int .i64 c0, .int .i64 c1, .int .i64 c2, .int .i64 c3, .int .i64 c4, .int .i64 c5, .int .i64 c6, .int .i64 c7, .int .i64 jk, .int .i64 jp, .int .i64 jn, .int .i64 n]] w fun e w' => e = .returned (.tuple #[.string { data := #[] }, .int .i64 5]) ∧ Below w.heap.size w w' := by
  go_enter Tryz.func6, Tryz.ntmps6
  go_wp2_with (go_at_call 14; refine (may_r _ _).mono ?_; rintro e w9 ⟨rfl, rfl⟩)
  go_ret2
  exact ⟨rfl, (Below.refl _ _).alloc (Nat.le_refl _) _⟩

set_option maxRecDepth 100000 in
set_option maxHeartbeats 4000000 in
theorem rl_no_c5 (w : World) (k o c0 c1 c2 c3 c4 c5 c6 c7 jk jp jn n : Int) (ho : may o = true) (hn : may n = true) (hc1 : may c1 = true) (hc2 : may c2 = true) (hc6 : may c6 = true) (hc7 : may c7 = true) (hc5 : may c5 = false) :
    Calls Tryz.prog 6 #[.agg #[.int .i64 k, .int .i64 o, .int .i64 c0, .int .i64 c1, .int .i64 c2, .int .i64 c3, .int .i64 c4, .int .i64 c5, .int .i64 c6, .int .i64 c7, .int .i64 jk, .int .i64 jp, .int .i64 jn, .int .i64 n]] w fun e w' => e = .returned (.tuple #[.string { data := #[] }, .int .i64 5]) ∧ Below w.heap.size w w' := by
  go_enter Tryz.func6, Tryz.ntmps6
  go_wp2_with (go_at_call 14; refine (may_r _ _).mono ?_; rintro e w9 ⟨rfl, rfl⟩)
  go_ret2
  exact ⟨rfl, (Below.refl _ _).alloc (Nat.le_refl _) _⟩

set_option maxRecDepth 100000 in
set_option maxHeartbeats 4000000 in
theorem rl_no_jp (w : World) (k o c0 c1 c2 c3 c4 c5 c6 c7 jk jp jn n : Int) (ho : may o = true) (hn : may n = true) (hc1 : may c1 = true) (hc2 : may c2 = true) (hc6 : may c6 = true) (hc7 : may c7 = true) (hc5 : may c5 = true) (hjp : may jp = false) :
    Calls Tryz.prog 6 #[.agg #[.int .i64 k, .int .i64 o, .int .i64 c0, .int .i64 c1, .int .i64 c2, .int .i64 c3, .int .i64 c4, .int .i64 c5, .int .i64 c6, .int .i64 c7, .int .i64 jk, .int .i64 jp, .int .i64 jn, .int .i64 n]] w fun e w' => e = .returned (.tuple #[.string { data := #[] }, .int .i64 5]) ∧ Below w.heap.size w w' := by
  go_enter Tryz.func6, Tryz.ntmps6
  go_wp2_with (go_at_call 14; refine (may_r _ _).mono ?_; rintro e w9 ⟨rfl, rfl⟩)
  go_ret2
  exact ⟨rfl, (Below.refl _ _).alloc (Nat.le_refl _) _⟩

set_option maxRecDepth 100000 in
set_option maxHeartbeats 4000000 in
theorem rl_no_jn (w : World) (k o c0 c1 c2 c3 c4 c5 c6 c7 jk jp jn n : Int) (ho : may o = true) (hn : may n = true) (hc1 : may c1 = true) (hc2 : may c2 = true) (hc6 : may c6 = true) (hc7 : may c7 = true) (hc5 : may c5 = true) (hjp : may jp = true) (hjn : may jn = false) :
    Calls Tryz.prog 6 #[.agg #[.int .i64 k, .int .i64 o, .int .i64 c0, .int .i64 c1, .int .i64 c2, .int .i64 c3, .int .i64 c4, .int .i64 c5, .int .i64 c6, .int .i64 c7, .int .i64 jk, .int .i64 jp, .int .i64 jn, .int .i64 n]] w fun e w' => e = .returned (.tuple #[.string { data := #[] }, .int .i64 5]) ∧ Below w.heap.size w w' := by
  go_enter Tryz.func6, Tryz.ntmps6
  go_wp2_with (go_at_call 14; refine (may_r _ _).mono ?_; rintro e w9 ⟨rfl, rfl⟩)
  go_ret2
  exact ⟨rfl, (Below.refl _ _).alloc (Nat.le_refl _) _⟩

set_option maxRecDepth 100000 in
set_option maxHeartbeats 4000000 in
theorem rl_none (w : World) (k o c0 c1 c2 c3 c4 c5 c6 c7 jk jp jn n : Int) (ho : may o = true) (hn : may n = true) (hc1 : may c1 = true) (hc2 : may c2 = true) (hc6 : may c6 = true) (hc7 : may c7 = true) (hc5 : may c5 = true) (hjp : may jp = true) (hjn : may jn = true) (s : ByteArray) (hs : bs (textT ⟨k, o, ⟨c0, c1, c2, c3, c4, c5, c6, c7⟩, jk, jp, jn, n⟩) = s) (hm : mayI ⟨k, o, ⟨c0, c1, c2, c3, c4, c5, c6, c7⟩, jk, jp, jn, n⟩ = true) (ho2 : readR (wordsL (textT ⟨k, o, ⟨c0, c1, c2, c3, c4, c5, c6, c7⟩, jk, jp, jn, n⟩)) = none) :
    Calls Tryz.prog 6 #[.agg #[.int .i64 k, .int .i64 o, .int .i64 c0, .int .i64 c1, .int .i64 c2, .int .i64 c3, .int .i64 c4, .int .i64 c5, .int .i64 c6, .int .i64 c7, .int .i64 jk, .int .i64 jp, .int .i64 jn, .int .i64 n]] w fun e w' => e = .returned (.tuple #[.string { data := #[] }, .int .i64 5]) ∧ Below w.heap.size w w' := by
  have B0 : Below w.heap.size w (w.alloc (.cells #[.int .i64 k, .int .i64 o, .int .i64 c0, .int .i64 c1, .int .i64 c2, .int .i64 c3, .int .i64 c4, .int .i64 c5, .int .i64 c6, .int .i64 c7, .int .i64 jk, .int .i64 jp, .int .i64 jn, .int .i64 n] 29)) := (Below.refl _ _).alloc (Nat.le_refl _) _
  have P0 : Blk (w.alloc (.cells #[.int .i64 k, .int .i64 o, .int .i64 c0, .int .i64 c1, .int .i64 c2, .int .i64 c3, .int .i64 c4, .int .i64 c5, .int .i64 c6, .int .i64 c7, .int .i64 jk, .int .i64 jp, .int .i64 jn, .int .i64 n] 29)) w.heap.size 29 #[.int .i64 k, .int .i64 o, .int .i64 c0, .int .i64 c1, .int .i64 c2, .int .i64 c3, .int .i64 c4, .int .i64 c5, .int .i64 c6, .int .i64 c7, .int .i64 jk, .int .i64 jp, .int .i64 jn, .int .i64 n] := Blk.new _ _ _
  have htx := fun (W : World) => text_r W ⟨k, o, ⟨c0, c1, c2, c3, c4, c5, c6, c7⟩, jk, jp, jn, n⟩ hm
  have hrd := fun (W : World) => read_r W (textT ⟨k, o, ⟨c0, c1, c2, c3, c4, c5, c6, c7⟩, jk, jp, jn, n⟩) (by have := textT_len ⟨k, o, ⟨c0, c1, c2, c3, c4, c5, c6, c7⟩, jk, jp, jn, n⟩ hm; omega)
  rw [hs] at htx
  rw [hs, ho2] at hrd
  unfold Itm.arr at htx
  simp only at htx
  unfold RiPost Itm.arr at hrd
  simp only [Option.isSome_none] at hrd
  have HTX := Lib.hid htx
  have HRD := Lib.hid hrd
  have HB0 := Lib.hid B0
  have HP0 := Lib.hid P0
  clear htx hrd B0 P0 hs hm ho2
  go_enter Tryz.func6, Tryz.ntmps6
  go_wp2_with (first
    | (go_at_call 14; refine (may_r _ _).mono ?_; rintro e w9 ⟨rfl, rfl⟩)
    | (go_at_call 15; refine (HTX.out _).mono ?_; rintro e w1 ⟨rfl, B⟩; have P := HP0.out.below B HP0.out.lt; have HP1 := Lib.hid P; have HB1 := Lib.hid (HB0.out.trans (B.mono (by simp))); clear B P)
    | (go_at_call 16; refine (HRD.out _).mono ?_; rintro e w2 ⟨⟨y, rfl, hy⟩, B⟩; have P := HP1.out.below B HP1.out.lt; have kr := P.rowOf; have kp := P.plain; have kl := P.lt; have HB2 := Lib.hid (HB1.out.trans (B.mono HB1.out.size)); clear hy; clear B P))
  go_ret2
  exact ⟨rfl, HB2.out.alloc HB2.out.size _⟩

set_option maxRecDepth 100000 in
set_option maxHeartbeats 4000000 in
theorem rl_some (w : World) (k o c0 c1 c2 c3 c4 c5 c6 c7 jk jp jn n : Int) (ho : may o = true) (hn : may n = true) (hc1 : may c1 = true) (hc2 : may c2 = true) (hc6 : may c6 = true) (hc7 : may c7 = true) (hc5 : may c5 = true) (hjp : may jp = true) (hjn : may jn = true) (s : ByteArray) (hs : bs (textT ⟨k, o, ⟨c0, c1, c2, c3, c4, c5, c6, c7⟩, jk, jp, jn, n⟩) = s) (hm : mayI ⟨k, o, ⟨c0, c1, c2, c3, c4, c5, c6, c7⟩, jk, jp, jn, n⟩ = true) (ho2 : readR (wordsL (textT ⟨k, o, ⟨c0, c1, c2, c3, c4, c5, c6, c7⟩, jk, jp, jn, n⟩)) = some ⟨k, o, ⟨c0, c1, c2, c3, c4, c5, c6, c7⟩, jk, jp, jn, n⟩) :
    Calls Tryz.prog 6 #[.agg #[.int .i64 k, .int .i64 o, .int .i64 c0, .int .i64 c1, .int .i64 c2, .int .i64 c3, .int .i64 c4, .int .i64 c5, .int .i64 c6, .int .i64 c7, .int .i64 jk, .int .i64 jp, .int .i64 jn, .int .i64 n]] w fun e w' => e = .returned (.tuple #[.string s, .int .i64 0]) ∧ Below w.heap.size w w' := by
  have B0 : Below w.heap.size w (w.alloc (.cells #[.int .i64 k, .int .i64 o, .int .i64 c0, .int .i64 c1, .int .i64 c2, .int .i64 c3, .int .i64 c4, .int .i64 c5, .int .i64 c6, .int .i64 c7, .int .i64 jk, .int .i64 jp, .int .i64 jn, .int .i64 n] 29)) := (Below.refl _ _).alloc (Nat.le_refl _) _
  have P0 : Blk (w.alloc (.cells #[.int .i64 k, .int .i64 o, .int .i64 c0, .int .i64 c1, .int .i64 c2, .int .i64 c3, .int .i64 c4, .int .i64 c5, .int .i64 c6, .int .i64 c7, .int .i64 jk, .int .i64 jp, .int .i64 jn, .int .i64 n] 29)) w.heap.size 29 #[.int .i64 k, .int .i64 o, .int .i64 c0, .int .i64 c1, .int .i64 c2, .int .i64 c3, .int .i64 c4, .int .i64 c5, .int .i64 c6, .int .i64 c7, .int .i64 jk, .int .i64 jp, .int .i64 jn, .int .i64 n] := Blk.new _ _ _
  have htx := fun (W : World) => text_r W ⟨k, o, ⟨c0, c1, c2, c3, c4, c5, c6, c7⟩, jk, jp, jn, n⟩ hm
  have hrd := fun (W : World) => read_r W (textT ⟨k, o, ⟨c0, c1, c2, c3, c4, c5, c6, c7⟩, jk, jp, jn, n⟩) (by have := textT_len ⟨k, o, ⟨c0, c1, c2, c3, c4, c5, c6, c7⟩, jk, jp, jn, n⟩ hm; omega)
  rw [hs] at htx
  rw [hs, ho2] at hrd
  unfold Itm.arr at htx
  simp only at htx
  unfold RiPost at hrd
  simp only [Option.isSome_some] at hrd
  have e1 : (Itm.arr ⟨k, o, ⟨c0, c1, c2, c3, c4, c5, c6, c7⟩, jk, jp, jn, n⟩) = #[.int .i64 k, .int .i64 o, .int .i64 c0, .int .i64 c1, .int .i64 c2, .int .i64 c3, .int .i64 c4, .int .i64 c5, .int .i64 c6, .int .i64 c7, .int .i64 jk, .int .i64 jp, .int .i64 jn, .int .i64 n] := rfl
  rw [← e1] at P0 B0
  simp only [← e1]
  have hd : decide (⟨k, o, ⟨c0, c1, c2, c3, c4, c5, c6, c7⟩, jk, jp, jn, n⟩ = (⟨k, o, ⟨c0, c1, c2, c3, c4, c5, c6, c7⟩, jk, jp, jn, n⟩ : Itm)) = true := decide_eq_true rfl
  clear e1
  have HTX := Lib.hid htx
  have HRD := Lib.hid hrd
  have HB0 := Lib.hid B0
  have HP0 := Lib.hid P0
  clear htx hrd B0 P0 hs hm ho2
  go_enter Tryz.func6, Tryz.ntmps6
  go_wp2_with (first
    | (go_at_call 14; refine (may_r _ _).mono ?_; rintro e w9 ⟨rfl, rfl⟩)
    | (go_at_call 15; refine (HTX.out _).mono ?_; rintro e w1 ⟨rfl, B⟩; have P := HP0.out.below B HP0.out.lt; have HP1 := Lib.hid P; have HB1 := Lib.hid (HB0.out.trans (B.mono (by simp))); clear B P)
    | (go_at_call 16; refine (HRD.out _).mono ?_; rintro e w2 ⟨⟨y, rfl, hy⟩, B⟩; have P := HP1.out.below B HP1.out.lt; have kr := P.rowOf; have kp := P.plain; have kl := P.lt; have HB2 := Lib.hid (HB1.out.trans (B.mono HB1.out.size)); obtain rfl := hy _ rfl; clear B P))
  go_ret2
  exact ⟨rfl, HB2.out.alloc HB2.out.size _⟩

set_option maxRecDepth 100000 in
set_option maxHeartbeats 4000000 in
theorem rl_other (w : World) (k o c0 c1 c2 c3 c4 c5 c6 c7 jk jp jn n : Int) (ho : may o = true) (hn : may n = true) (hc1 : may c1 = true) (hc2 : may c2 = true) (hc6 : may c6 = true) (hc7 : may c7 = true) (hc5 : may c5 = true) (hjp : may jp = true) (hjn : may jn = true) (s : ByteArray) (hs : bs (textT ⟨k, o, ⟨c0, c1, c2, c3, c4, c5, c6, c7⟩, jk, jp, jn, n⟩) = s) (hm : mayI ⟨k, o, ⟨c0, c1, c2, c3, c4, c5, c6, c7⟩, jk, jp, jn, n⟩ = true) (z : Itm) (hz : z ≠ ⟨k, o, ⟨c0, c1, c2, c3, c4, c5, c6, c7⟩, jk, jp, jn, n⟩) (ho2 : readR (wordsL (textT ⟨k, o, ⟨c0, c1, c2, c3, c4, c5, c6, c7⟩, jk, jp, jn, n⟩)) = some z) :
    Calls Tryz.prog 6 #[.agg #[.int .i64 k, .int .i64 o, .int .i64 c0, .int .i64 c1, .int .i64 c2, .int .i64 c3, .int .i64 c4, .int .i64 c5, .int .i64 c6, .int .i64 c7, .int .i64 jk, .int .i64 jp, .int .i64 jn, .int .i64 n]] w fun e w' => e = .returned (.tuple #[.string { data := #[] }, .int .i64 5]) ∧ Below w.heap.size w w' := by
  have B0 : Below w.heap.size w (w.alloc (.cells #[.int .i64 k, .int .i64 o, .int .i64 c0, .int .i64 c1, .int .i64 c2, .int .i64 c3, .int .i64 c4, .int .i64 c5, .int .i64 c6, .int .i64 c7, .int .i64 jk, .int .i64 jp, .int .i64 jn, .int .i64 n] 29)) := (Below.refl _ _).alloc (Nat.le_refl _) _
  have P0 : Blk (w.alloc (.cells #[.int .i64 k, .int .i64 o, .int .i64 c0, .int .i64 c1, .int .i64 c2, .int .i64 c3, .int .i64 c4, .int .i64 c5, .int .i64 c6, .int .i64 c7, .int .i64 jk, .int .i64 jp, .int .i64 jn, .int .i64 n] 29)) w.heap.size 29 #[.int .i64 k, .int .i64 o, .int .i64 c0, .int .i64 c1, .int .i64 c2, .int .i64 c3, .int .i64 c4, .int .i64 c5, .int .i64 c6, .int .i64 c7, .int .i64 jk, .int .i64 jp, .int .i64 jn, .int .i64 n] := Blk.new _ _ _
  have htx := fun (W : World) => text_r W ⟨k, o, ⟨c0, c1, c2, c3, c4, c5, c6, c7⟩, jk, jp, jn, n⟩ hm
  have hrd := fun (W : World) => read_r W (textT ⟨k, o, ⟨c0, c1, c2, c3, c4, c5, c6, c7⟩, jk, jp, jn, n⟩) (by have := textT_len ⟨k, o, ⟨c0, c1, c2, c3, c4, c5, c6, c7⟩, jk, jp, jn, n⟩ hm; omega)
  rw [hs] at htx
  rw [hs, ho2] at hrd
  unfold Itm.arr at htx
  simp only at htx
  unfold RiPost at hrd
  simp only [Option.isSome_some] at hrd
  have e1 : (Itm.arr ⟨k, o, ⟨c0, c1, c2, c3, c4, c5, c6, c7⟩, jk, jp, jn, n⟩) = #[.int .i64 k, .int .i64 o, .int .i64 c0, .int .i64 c1, .int .i64 c2, .int .i64 c3, .int .i64 c4, .int .i64 c5, .int .i64 c6, .int .i64 c7, .int .i64 jk, .int .i64 jp, .int .i64 jn, .int .i64 n] := rfl
  rw [← e1] at P0 B0
  simp only [← e1]
  have hd : decide (z = (⟨k, o, ⟨c0, c1, c2, c3, c4, c5, c6, c7⟩, jk, jp, jn, n⟩ : Itm)) = false := decide_eq_false hz
  clear e1 hz
  have HTX := Lib.hid htx
  have HRD := Lib.hid hrd
  have HB0 := Lib.hid B0
  have HP0 := Lib.hid P0
  clear htx hrd B0 P0 hs hm ho2
  go_enter Tryz.func6, Tryz.ntmps6
  go_wp2_with (first
    | (go_at_call 14; refine (may_r _ _).mono ?_; rintro e w9 ⟨rfl, rfl⟩)
    | (go_at_call 15; refine (HTX.out _).mono ?_; rintro e w1 ⟨rfl, B⟩; have P := HP0.out.below B HP0.out.lt; have HP1 := Lib.hid P; have HB1 := Lib.hid (HB0.out.trans (B.mono (by simp))); clear B P)
    | (go_at_call 16; refine (HRD.out _).mono ?_; rintro e w2 ⟨⟨y, rfl, hy⟩, B⟩; have P := HP1.out.below B HP1.out.lt; have kr := P.rowOf; have kp := P.plain; have kl := P.lt; have HB2 := Lib.hid (HB1.out.trans (B.mono HB1.out.size)); obtain rfl := hy _ rfl; clear B P))
  go_ret2
  exact ⟨rfl, HB2.out.alloc HB2.out.size _⟩

theorem Line_r (w : World) (x : Itm) : Calls Tryz.prog 6 #[.agg x.arr] w fun e w' => e = .returned (lineV (LineR x)) ∧ Below w.heap.size w w' := by
  obtain ⟨k, o, ⟨c0, c1, c2, c3, c4, c5, c6, c7⟩, jk, jp, jn, n⟩ := x
  have e : Itm.arr ⟨k, o, ⟨c0, c1, c2, c3, c4, c5, c6, c7⟩, jk, jp, jn, n⟩ = #[.int .i64 k, .int .i64 o, .int .i64 c0, .int .i64 c1, .int .i64 c2, .int .i64 c3, .int .i64 c4, .int .i64 c5, .int .i64 c6, .int .i64 c7, .int .i64 jk, .int .i64 jp, .int .i64 jn, .int .i64 n] := rfl
  rw [e]
  have no : lineV none = .tuple #[.string { data := #[] }, .int .i64 5] := rfl
  by_cases ho' : may o = false
  · have : LineR ⟨k, o, ⟨c0, c1, c2, c3, c4, c5, c6, c7⟩, jk, jp, jn, n⟩ = none := by unfold LineR; rw [if_neg (by simp [mayI, ho'])]
    rw [this, no]
    exact rl_no_o w k o c0 c1 c2 c3 c4 c5 c6 c7 jk jp jn n  ho'
  have ho : may o = true := by simpa using ho'
  by_cases hn' : may n = false
  · have : LineR ⟨k, o, ⟨c0, c1, c2, c3, c4, c5, c6, c7⟩, jk, jp, jn, n⟩ = none := by unfold LineR; rw [if_neg (by simp [mayI, hn'])]
    rw [this, no]
    exact rl_no_n w k o c0 c1 c2 c3 c4 c5 c6 c7 jk jp jn n ho hn'
  have hn : may n = true := by simpa using hn'
  by_cases hc1' : may c1 = false
  · have : LineR ⟨k, o, ⟨c0, c1, c2, c3, c4, c5, c6, c7⟩, jk, jp, jn, n⟩ = none := by unfold LineR; rw [if_neg (by simp [mayI, hc1'])]
    rw [this, no]
    exact rl_no_c1 w k o c0 c1 c2 c3 c4 c5 c6 c7 jk jp jn n ho hn hc1'
  have hc1 : may c1 = true := by simpa using hc1'
  by_cases hc2' : may c2 = false
  · have : LineR ⟨k, o, ⟨c0, c1, c2, c3, c4, c5, c6, c7⟩, jk, jp, jn, n⟩ = none := by unfold LineR; rw [if_neg (by simp [mayI, hc2'])]
    rw [this, no]
    exact rl_no_c2 w k o c0 c1 c2 c3 c4 c5 c6 c7 jk jp jn n ho hn hc1 hc2'
  have hc2 : may c2 = true := by simpa using hc2'
  by_cases hc6' : may c6 = false
  · have : LineR ⟨k, o, ⟨c0, c1, c2, c3, c4, c5, c6, c7⟩, jk, jp, jn, n⟩ = none := by unfold LineR; rw [if_neg (by simp [mayI, hc6'])]
    rw [this, no]
    exact rl_no_c6 w k o c0 c1 c2 c3 c4 c5 c6 c7 jk jp jn n ho hn hc1 hc2 hc6'
  have hc6 : may c6 = true := by simpa using hc6'
  by_cases hc7' : may c7 = false
  · have : LineR ⟨k, o, ⟨c0, c1, c2, c3, c4, c5, c6, c7⟩, jk, jp, jn, n⟩ = none := by unfold LineR; rw [if_neg (by simp [mayI, hc7'])]
    rw [this, no]
    exact rl_no_c7 w k o c0 c1 c2 c3 c4 c5 c6 c7 jk jp jn n ho hn hc1 hc2 hc6 hc7'
  have hc7 : may c7 = true := by simpa using hc7'
  by_cases hc5' : may c5 = false
  · have : LineR ⟨k, o, ⟨c0, c1, c2, c3, c4, c5, c6, c7⟩, jk, jp, jn, n⟩ = none := by unfold LineR; rw [if_neg (by simp [mayI, hc5'])]
    rw [this, no]
    exact rl_no_c5 w k o c0 c1 c2 c3 c4 c5 c6 c7 jk jp jn n ho hn hc1 hc2 hc6 hc7 hc5'
  have hc5 : may c5 = true := by simpa using hc5'
  by_cases hjp' : may jp = false
  · have : LineR ⟨k, o, ⟨c0, c1, c2, c3, c4, c5, c6, c7⟩, jk, jp, jn, n⟩ = none := by unfold LineR; rw [if_neg (by simp [mayI, hjp'])]
    rw [this, no]
    exact rl_no_jp w k o c0 c1 c2 c3 c4 c5 c6 c7 jk jp jn n ho hn hc1 hc2 hc6 hc7 hc5 hjp'
  have hjp : may jp = true := by simpa using hjp'
  by_cases hjn' : may jn = false
  · have : LineR ⟨k, o, ⟨c0, c1, c2, c3, c4, c5, c6, c7⟩, jk, jp, jn, n⟩ = none := by unfold LineR; rw [if_neg (by simp [mayI, hjn'])]
    rw [this, no]
    exact rl_no_jn w k o c0 c1 c2 c3 c4 c5 c6 c7 jk jp jn n ho hn hc1 hc2 hc6 hc7 hc5 hjp hjn'
  have hjn : may jn = true := by simpa using hjn'
  have hm : mayI ⟨k, o, ⟨c0, c1, c2, c3, c4, c5, c6, c7⟩, jk, jp, jn, n⟩ = true := by simp [mayI, ho, hn, hc1, hc2, hc6, hc7, hc5, hjp, hjn]
  unfold LineR
  rw [if_pos hm]
  cases hr : readR (wordsL (textT ⟨k, o, ⟨c0, c1, c2, c3, c4, c5, c6, c7⟩, jk, jp, jn, n⟩)) with
  | none =>
    have e2 : (if (none : Option Itm) = some ⟨k, o, ⟨c0, c1, c2, c3, c4, c5, c6, c7⟩, jk, jp, jn, n⟩ then some (textT ⟨k, o, ⟨c0, c1, c2, c3, c4, c5, c6, c7⟩, jk, jp, jn, n⟩) else none) = none := rfl
    rw [e2, no]
    exact rl_none w k o c0 c1 c2 c3 c4 c5 c6 c7 jk jp jn n ho hn hc1 hc2 hc6 hc7 hc5 hjp hjn _ rfl hm hr
  | some z =>
    by_cases hz : z = ⟨k, o, ⟨c0, c1, c2, c3, c4, c5, c6, c7⟩, jk, jp, jn, n⟩
    · subst hz
      rw [if_pos rfl]
      exact rl_some w k o c0 c1 c2 c3 c4 c5 c6 c7 jk jp jn n ho hn hc1 hc2 hc6 hc7 hc5 hjp hjn _ rfl hm hr
    · have e2 : (if some z = some ⟨k, o, ⟨c0, c1, c2, c3, c4, c5, c6, c7⟩, jk, jp, jn, n⟩ then some (textT ⟨k, o, ⟨c0, c1, c2, c3, c4, c5, c6, c7⟩, jk, jp, jn, n⟩) else none) = none := if_neg (fun h => hz (Option.some.inj h))
      rw [e2, no]
      exact rl_other w k o c0 c1 c2 c3 c4 c5 c6 c7 jk jp jn n ho hn hc1 hc2 hc6 hc7 hc5 hjp hjn _ rfl hm z hz hr

end Go.Proofs.YtccoafacbbkooaaGreatDoor
