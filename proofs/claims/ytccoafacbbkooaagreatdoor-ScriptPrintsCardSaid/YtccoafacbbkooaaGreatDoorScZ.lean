/- Script: the program's job, line. Printed by mkScY.py. -/
import Derived.Test.YtccoafacbbkooaaGreatDoorScY
namespace Go.Proofs.YtccoafacbbkooaaGreatDoor
open Go.RowKit Go.Maps
theorem ld27 (v : Value) : Instr.loadAt 27 v = ldAgg 27 v := rfl
attribute [go_sem ↓] ld27
@[go_sem] theorem run_ld27 (w : World) (g off : Nat) (hp : plainRow w g = true) (hfit : fits (rowOf w g) off 3 = true) :
    (ldAgg 27 (.pointer (some ⟨g, off, none⟩))).run Tryz.prog w = .ok (.agg (cut (rowOf w g) off 3)) w :=
  run_loadAt_row w g off 3 27 _ Tryz.underlying27 rfl (by kernel_rfl) hp (of_decide_eq_true hfit)
@[go_sem] theorem cut14_2 (a0 a1 a2 a3 a4 a5 a6 a7 a8 a9 a10 a11 a12 a13 : Value) : cut #[a0, a1, a2, a3, a4, a5, a6, a7, a8, a9, a10, a11, a12, a13] 2 8 = #[a2, a3, a4, a5, a6, a7, a8, a9] := rfl
@[go_sem] theorem cut14_10 (a0 a1 a2 a3 a4 a5 a6 a7 a8 a9 a10 a11 a12 a13 : Value) : cut #[a0, a1, a2, a3, a4, a5, a6, a7, a8, a9, a10, a11, a12, a13] 10 3 = #[a10, a11, a12] := rfl
@[go_sem] theorem fits14_2 (a0 a1 a2 a3 a4 a5 a6 a7 a8 a9 a10 a11 a12 a13 : Value) : fits #[a0, a1, a2, a3, a4, a5, a6, a7, a8, a9, a10, a11, a12, a13] 2 8 = true := rfl

set_option maxRecDepth 100000 in
set_option maxHeartbeats 4000000 in
theorem sjob_Move (w : World) (o p n : Int) (ho : In64 o) (hp : In64 p) (hn : In64 n) (ht : Tab w) :
    Calls Tryz.prog 26 #[.int .i64 o, .agg #[.int .i64 1, .int .i64 p, .int .i64 n]] w fun e w' => e = .returned (.string (bs (joinW [kMove, (joinW [dg o, dg p]), dg n]))) ∧ Below w.heap.size w w' := by
  have HL1 := Lib.hid (dg_len ho)
  have HL2 := Lib.hid (dg_len hp)
  have HL3 := Lib.hid (dg_len hn)
  have HIo := Lib.hid ho
  have HIp := Lib.hid hp
  have HIn := Lib.hid hn
  clear ho hp hn
  have B0 : Below w.heap.size w (w.alloc (.cells #[.int .i64 1, .int .i64 p, .int .i64 n] 27)) := (Below.refl _ _).alloc (Nat.le_refl _) _
  have P0 : Blk (w.alloc (.cells #[.int .i64 1, .int .i64 p, .int .i64 n] 27)) w.heap.size 27 #[.int .i64 1, .int .i64 p, .int .i64 n] := Blk.new _ _ _
  have HT := Lib.hid ht
  have HB0 := Lib.hid B0
  have HP0 := Lib.hid P0
  clear ht B0 P0
  go_enter Tryz.func26, Tryz.ntmps26
  go_wp2_with fail
  go_region_held3 (fun w' => w'.cell? ⟨w.heap.size, 1, none⟩ = some (.int .i64 p)) (first | exact ⟨c1_1⟩ | exact ⟨c2_1⟩ | exact ⟨c3_1⟩ | go_keep)
    (first
    | (go_at_call 24; refine (digits_w o _ HIo.out (HT.out.below HB0.out.drew)).mono ?_; rintro e w1 ⟨rfl, B⟩; have P := (HP0.out.drew).below B HP0.out.lt; have c1_0 : w1.cell? ⟨w.heap.size, 0, none⟩ = some (.int .i64 1) := P.cell 0; have c1_1 : w1.cell? ⟨w.heap.size, 1, none⟩ = some (.int .i64 p) := P.cell 1; have c1_2 : w1.cell? ⟨w.heap.size, 2, none⟩ = some (.int .i64 n) := P.cell 2; have HP1 := Lib.hid P; have HB1 := Lib.hid ((HB0.out.drew).trans (B.mono (HB0.out.drew).size)); clear P B)
    | (go_at_call 24; refine (digits_w p _ HIp.out (HT.out.below HB1.out)).mono ?_; rintro e w2 ⟨rfl, B⟩; have P := (HP1.out).below B HP1.out.lt; have c2_0 : w2.cell? ⟨w.heap.size, 0, none⟩ = some (.int .i64 1) := P.cell 0; have c2_1 : w2.cell? ⟨w.heap.size, 1, none⟩ = some (.int .i64 p) := P.cell 1; have c2_2 : w2.cell? ⟨w.heap.size, 2, none⟩ = some (.int .i64 n) := P.cell 2; have HP2 := Lib.hid P; have HB2 := Lib.hid ((HB1.out).trans (B.mono (HB1.out).size)); clear P B)
    | (go_at_call 23; refine (words2 _ (dg o) (dg p) (by have := HL1.out; have := HL2.out; omega)).mono ?_; rintro e w3 ⟨rfl, B⟩; have P := (HP2.out).below B HP2.out.lt; have c3_0 : w3.cell? ⟨w.heap.size, 0, none⟩ = some (.int .i64 1) := P.cell 0; have c3_1 : w3.cell? ⟨w.heap.size, 1, none⟩ = some (.int .i64 p) := P.cell 1; have c3_2 : w3.cell? ⟨w.heap.size, 2, none⟩ = some (.int .i64 n) := P.cell 2; have HP3 := Lib.hid P; have HB3 := Lib.hid ((HB2.out).trans (B.mono (HB2.out).size)); clear P B))
  go_wp2_with (first
    | (go_at_call 24; refine (digits_w n _ HIn.out (HT.out.below HB3.out)).mono ?_; rintro e w4 ⟨rfl, B⟩; have P := (HP3.out).below B HP3.out.lt; have c4_0 : w4.cell? ⟨w.heap.size, 0, none⟩ = some (.int .i64 1) := P.cell 0; have c4_1 : w4.cell? ⟨w.heap.size, 1, none⟩ = some (.int .i64 p) := P.cell 1; have c4_2 : w4.cell? ⟨w.heap.size, 2, none⟩ = some (.int .i64 n) := P.cell 2; have HP4 := Lib.hid P; have HB4 := Lib.hid ((HB3.out).trans (B.mono (HB3.out).size)); clear P B)
    | (go_at_call 23; refine (words3 _ kMove (joinW [dg o, dg p]) (dg n) (by have := HL1.out; have := HL2.out; have := HL3.out; simp [joinW2]; omega)).mono ?_; rintro e w5 ⟨rfl, B⟩; have P := (HP4.out).below B HP4.out.lt; have c5_0 : w5.cell? ⟨w.heap.size, 0, none⟩ = some (.int .i64 1) := P.cell 0; have c5_1 : w5.cell? ⟨w.heap.size, 1, none⟩ = some (.int .i64 p) := P.cell 1; have c5_2 : w5.cell? ⟨w.heap.size, 2, none⟩ = some (.int .i64 n) := P.cell 2; have HP5 := Lib.hid P; have HB5 := Lib.hid ((HB4.out).trans (B.mono (HB4.out).size)); clear P B))
  go_ret
  exact ⟨rfl, HB5.out⟩

set_option maxRecDepth 100000 in
set_option maxHeartbeats 4000000 in
theorem sjob_Join (w : World) (o p n : Int) (ho : In64 o) (hp : In64 p) (hn : In64 n) (ht : Tab w) :
    Calls Tryz.prog 26 #[.int .i64 o, .agg #[.int .i64 3, .int .i64 p, .int .i64 n]] w fun e w' => e = .returned (.string (bs (joinW [kJoin, (joinW [dg o, dg p]), dg n]))) ∧ Below w.heap.size w w' := by
  have HL1 := Lib.hid (dg_len ho)
  have HL2 := Lib.hid (dg_len hp)
  have HL3 := Lib.hid (dg_len hn)
  have HIo := Lib.hid ho
  have HIp := Lib.hid hp
  have HIn := Lib.hid hn
  clear ho hp hn
  have B0 : Below w.heap.size w (w.alloc (.cells #[.int .i64 3, .int .i64 p, .int .i64 n] 27)) := (Below.refl _ _).alloc (Nat.le_refl _) _
  have P0 : Blk (w.alloc (.cells #[.int .i64 3, .int .i64 p, .int .i64 n] 27)) w.heap.size 27 #[.int .i64 3, .int .i64 p, .int .i64 n] := Blk.new _ _ _
  have HT := Lib.hid ht
  have HB0 := Lib.hid B0
  have HP0 := Lib.hid P0
  clear ht B0 P0
  go_enter Tryz.func26, Tryz.ntmps26
  go_wp2_with fail
  go_region_held3 (fun w' => w'.cell? ⟨w.heap.size, 1, none⟩ = some (.int .i64 p)) (first | exact ⟨c1_1⟩ | exact ⟨c2_1⟩ | exact ⟨c3_1⟩ | go_keep)
    (first
    | (go_at_call 24; refine (digits_w o _ HIo.out (HT.out.below HB0.out.drew)).mono ?_; rintro e w1 ⟨rfl, B⟩; have P := (HP0.out.drew).below B HP0.out.lt; have c1_0 : w1.cell? ⟨w.heap.size, 0, none⟩ = some (.int .i64 3) := P.cell 0; have c1_1 : w1.cell? ⟨w.heap.size, 1, none⟩ = some (.int .i64 p) := P.cell 1; have c1_2 : w1.cell? ⟨w.heap.size, 2, none⟩ = some (.int .i64 n) := P.cell 2; have HP1 := Lib.hid P; have HB1 := Lib.hid ((HB0.out.drew).trans (B.mono (HB0.out.drew).size)); clear P B)
    | (go_at_call 24; refine (digits_w p _ HIp.out (HT.out.below HB1.out)).mono ?_; rintro e w2 ⟨rfl, B⟩; have P := (HP1.out).below B HP1.out.lt; have c2_0 : w2.cell? ⟨w.heap.size, 0, none⟩ = some (.int .i64 3) := P.cell 0; have c2_1 : w2.cell? ⟨w.heap.size, 1, none⟩ = some (.int .i64 p) := P.cell 1; have c2_2 : w2.cell? ⟨w.heap.size, 2, none⟩ = some (.int .i64 n) := P.cell 2; have HP2 := Lib.hid P; have HB2 := Lib.hid ((HB1.out).trans (B.mono (HB1.out).size)); clear P B)
    | (go_at_call 23; refine (words2 _ (dg o) (dg p) (by have := HL1.out; have := HL2.out; omega)).mono ?_; rintro e w3 ⟨rfl, B⟩; have P := (HP2.out).below B HP2.out.lt; have c3_0 : w3.cell? ⟨w.heap.size, 0, none⟩ = some (.int .i64 3) := P.cell 0; have c3_1 : w3.cell? ⟨w.heap.size, 1, none⟩ = some (.int .i64 p) := P.cell 1; have c3_2 : w3.cell? ⟨w.heap.size, 2, none⟩ = some (.int .i64 n) := P.cell 2; have HP3 := Lib.hid P; have HB3 := Lib.hid ((HB2.out).trans (B.mono (HB2.out).size)); clear P B))
  go_wp2_with (first
    | (go_at_call 24; refine (digits_w n _ HIn.out (HT.out.below HB3.out)).mono ?_; rintro e w4 ⟨rfl, B⟩; have P := (HP3.out).below B HP3.out.lt; have c4_0 : w4.cell? ⟨w.heap.size, 0, none⟩ = some (.int .i64 3) := P.cell 0; have c4_1 : w4.cell? ⟨w.heap.size, 1, none⟩ = some (.int .i64 p) := P.cell 1; have c4_2 : w4.cell? ⟨w.heap.size, 2, none⟩ = some (.int .i64 n) := P.cell 2; have HP4 := Lib.hid P; have HB4 := Lib.hid ((HB3.out).trans (B.mono (HB3.out).size)); clear P B)
    | (go_at_call 23; refine (words3 _ kJoin (joinW [dg o, dg p]) (dg n) (by have := HL1.out; have := HL2.out; have := HL3.out; simp [joinW2]; omega)).mono ?_; rintro e w5 ⟨rfl, B⟩; have P := (HP4.out).below B HP4.out.lt; have c5_0 : w5.cell? ⟨w.heap.size, 0, none⟩ = some (.int .i64 3) := P.cell 0; have c5_1 : w5.cell? ⟨w.heap.size, 1, none⟩ = some (.int .i64 p) := P.cell 1; have c5_2 : w5.cell? ⟨w.heap.size, 2, none⟩ = some (.int .i64 n) := P.cell 2; have HP5 := Lib.hid P; have HB5 := Lib.hid ((HB4.out).trans (B.mono (HB4.out).size)); clear P B))
  go_ret
  exact ⟨rfl, HB5.out⟩

set_option maxRecDepth 100000 in
set_option maxHeartbeats 4000000 in
theorem sjob_Copy (w : World) (o p n : Int) (ho : In64 o) (hp : In64 p) (hn : In64 n) (ht : Tab w) :
    Calls Tryz.prog 26 #[.int .i64 o, .agg #[.int .i64 4, .int .i64 p, .int .i64 n]] w fun e w' => e = .returned (.string (bs (joinW [kCopy, (joinW [dg o, dg p]), dg n]))) ∧ Below w.heap.size w w' := by
  have HL1 := Lib.hid (dg_len ho)
  have HL2 := Lib.hid (dg_len hp)
  have HL3 := Lib.hid (dg_len hn)
  have HIo := Lib.hid ho
  have HIp := Lib.hid hp
  have HIn := Lib.hid hn
  clear ho hp hn
  have B0 : Below w.heap.size w (w.alloc (.cells #[.int .i64 4, .int .i64 p, .int .i64 n] 27)) := (Below.refl _ _).alloc (Nat.le_refl _) _
  have P0 : Blk (w.alloc (.cells #[.int .i64 4, .int .i64 p, .int .i64 n] 27)) w.heap.size 27 #[.int .i64 4, .int .i64 p, .int .i64 n] := Blk.new _ _ _
  have HT := Lib.hid ht
  have HB0 := Lib.hid B0
  have HP0 := Lib.hid P0
  clear ht B0 P0
  go_enter Tryz.func26, Tryz.ntmps26
  go_wp2_with fail
  go_region_held3 (fun w' => w'.cell? ⟨w.heap.size, 1, none⟩ = some (.int .i64 p)) (first | exact ⟨c1_1⟩ | exact ⟨c2_1⟩ | exact ⟨c3_1⟩ | go_keep)
    (first
    | (go_at_call 24; refine (digits_w o _ HIo.out (HT.out.below HB0.out.drew)).mono ?_; rintro e w1 ⟨rfl, B⟩; have P := (HP0.out.drew).below B HP0.out.lt; have c1_0 : w1.cell? ⟨w.heap.size, 0, none⟩ = some (.int .i64 4) := P.cell 0; have c1_1 : w1.cell? ⟨w.heap.size, 1, none⟩ = some (.int .i64 p) := P.cell 1; have c1_2 : w1.cell? ⟨w.heap.size, 2, none⟩ = some (.int .i64 n) := P.cell 2; have HP1 := Lib.hid P; have HB1 := Lib.hid ((HB0.out.drew).trans (B.mono (HB0.out.drew).size)); clear P B)
    | (go_at_call 24; refine (digits_w p _ HIp.out (HT.out.below HB1.out)).mono ?_; rintro e w2 ⟨rfl, B⟩; have P := (HP1.out).below B HP1.out.lt; have c2_0 : w2.cell? ⟨w.heap.size, 0, none⟩ = some (.int .i64 4) := P.cell 0; have c2_1 : w2.cell? ⟨w.heap.size, 1, none⟩ = some (.int .i64 p) := P.cell 1; have c2_2 : w2.cell? ⟨w.heap.size, 2, none⟩ = some (.int .i64 n) := P.cell 2; have HP2 := Lib.hid P; have HB2 := Lib.hid ((HB1.out).trans (B.mono (HB1.out).size)); clear P B)
    | (go_at_call 23; refine (words2 _ (dg o) (dg p) (by have := HL1.out; have := HL2.out; omega)).mono ?_; rintro e w3 ⟨rfl, B⟩; have P := (HP2.out).below B HP2.out.lt; have c3_0 : w3.cell? ⟨w.heap.size, 0, none⟩ = some (.int .i64 4) := P.cell 0; have c3_1 : w3.cell? ⟨w.heap.size, 1, none⟩ = some (.int .i64 p) := P.cell 1; have c3_2 : w3.cell? ⟨w.heap.size, 2, none⟩ = some (.int .i64 n) := P.cell 2; have HP3 := Lib.hid P; have HB3 := Lib.hid ((HB2.out).trans (B.mono (HB2.out).size)); clear P B))
  go_wp2_with (first
    | (go_at_call 24; refine (digits_w n _ HIn.out (HT.out.below HB3.out)).mono ?_; rintro e w4 ⟨rfl, B⟩; have P := (HP3.out).below B HP3.out.lt; have c4_0 : w4.cell? ⟨w.heap.size, 0, none⟩ = some (.int .i64 4) := P.cell 0; have c4_1 : w4.cell? ⟨w.heap.size, 1, none⟩ = some (.int .i64 p) := P.cell 1; have c4_2 : w4.cell? ⟨w.heap.size, 2, none⟩ = some (.int .i64 n) := P.cell 2; have HP4 := Lib.hid P; have HB4 := Lib.hid ((HB3.out).trans (B.mono (HB3.out).size)); clear P B)
    | (go_at_call 23; refine (words3 _ kCopy (joinW [dg o, dg p]) (dg n) (by have := HL1.out; have := HL2.out; have := HL3.out; simp [joinW2]; omega)).mono ?_; rintro e w5 ⟨rfl, B⟩; have P := (HP4.out).below B HP4.out.lt; have c5_0 : w5.cell? ⟨w.heap.size, 0, none⟩ = some (.int .i64 4) := P.cell 0; have c5_1 : w5.cell? ⟨w.heap.size, 1, none⟩ = some (.int .i64 p) := P.cell 1; have c5_2 : w5.cell? ⟨w.heap.size, 2, none⟩ = some (.int .i64 n) := P.cell 2; have HP5 := Lib.hid P; have HB5 := Lib.hid ((HB4.out).trans (B.mono (HB4.out).size)); clear P B))
  go_ret
  exact ⟨rfl, HB5.out⟩

set_option maxRecDepth 100000 in
set_option maxHeartbeats 4000000 in
theorem sjob_Split (w : World) (o p n : Int) (ho : In64 o) (hp : In64 p) (hn : In64 n) (ht : Tab w) :
    Calls Tryz.prog 26 #[.int .i64 o, .agg #[.int .i64 2, .int .i64 p, .int .i64 n]] w fun e w' => e = .returned (.string (bs (joinW [kSplit, (joinW [dg o, dg p])]))) ∧ Below w.heap.size w w' := by
  have HL1 := Lib.hid (dg_len ho)
  have HL2 := Lib.hid (dg_len hp)
  have HL3 := Lib.hid (dg_len hn)
  have HIo := Lib.hid ho
  have HIp := Lib.hid hp
  have HIn := Lib.hid hn
  clear ho hp hn
  have B0 : Below w.heap.size w (w.alloc (.cells #[.int .i64 2, .int .i64 p, .int .i64 n] 27)) := (Below.refl _ _).alloc (Nat.le_refl _) _
  have P0 : Blk (w.alloc (.cells #[.int .i64 2, .int .i64 p, .int .i64 n] 27)) w.heap.size 27 #[.int .i64 2, .int .i64 p, .int .i64 n] := Blk.new _ _ _
  have HT := Lib.hid ht
  have HB0 := Lib.hid B0
  have HP0 := Lib.hid P0
  clear ht B0 P0
  go_enter Tryz.func26, Tryz.ntmps26
  go_wp2_with fail
  go_region_held3 (fun w' => w'.cell? ⟨w.heap.size, 1, none⟩ = some (.int .i64 p)) (first | exact ⟨c1_1⟩ | exact ⟨c2_1⟩ | exact ⟨c3_1⟩ | go_keep)
    (first
    | (go_at_call 24; refine (digits_w o _ HIo.out (HT.out.below HB0.out.drew)).mono ?_; rintro e w1 ⟨rfl, B⟩; have P := (HP0.out.drew).below B HP0.out.lt; have c1_0 : w1.cell? ⟨w.heap.size, 0, none⟩ = some (.int .i64 2) := P.cell 0; have c1_1 : w1.cell? ⟨w.heap.size, 1, none⟩ = some (.int .i64 p) := P.cell 1; have c1_2 : w1.cell? ⟨w.heap.size, 2, none⟩ = some (.int .i64 n) := P.cell 2; have HP1 := Lib.hid P; have HB1 := Lib.hid ((HB0.out.drew).trans (B.mono (HB0.out.drew).size)); clear P B)
    | (go_at_call 24; refine (digits_w p _ HIp.out (HT.out.below HB1.out)).mono ?_; rintro e w2 ⟨rfl, B⟩; have P := (HP1.out).below B HP1.out.lt; have c2_0 : w2.cell? ⟨w.heap.size, 0, none⟩ = some (.int .i64 2) := P.cell 0; have c2_1 : w2.cell? ⟨w.heap.size, 1, none⟩ = some (.int .i64 p) := P.cell 1; have c2_2 : w2.cell? ⟨w.heap.size, 2, none⟩ = some (.int .i64 n) := P.cell 2; have HP2 := Lib.hid P; have HB2 := Lib.hid ((HB1.out).trans (B.mono (HB1.out).size)); clear P B)
    | (go_at_call 23; refine (words2 _ (dg o) (dg p) (by have := HL1.out; have := HL2.out; omega)).mono ?_; rintro e w3 ⟨rfl, B⟩; have P := (HP2.out).below B HP2.out.lt; have c3_0 : w3.cell? ⟨w.heap.size, 0, none⟩ = some (.int .i64 2) := P.cell 0; have c3_1 : w3.cell? ⟨w.heap.size, 1, none⟩ = some (.int .i64 p) := P.cell 1; have c3_2 : w3.cell? ⟨w.heap.size, 2, none⟩ = some (.int .i64 n) := P.cell 2; have HP3 := Lib.hid P; have HB3 := Lib.hid ((HB2.out).trans (B.mono (HB2.out).size)); clear P B))
  go_wp2_with (first
    | (go_at_call 23; refine (words2 _ kSplit (joinW [dg o, dg p]) (by have := HL1.out; have := HL2.out; have := HL3.out; simp [joinW2]; omega)).mono ?_; rintro e w4 ⟨rfl, B⟩; have P := (HP3.out).below B HP3.out.lt; have c4_0 : w4.cell? ⟨w.heap.size, 0, none⟩ = some (.int .i64 2) := P.cell 0; have c4_1 : w4.cell? ⟨w.heap.size, 1, none⟩ = some (.int .i64 p) := P.cell 1; have c4_2 : w4.cell? ⟨w.heap.size, 2, none⟩ = some (.int .i64 n) := P.cell 2; have HP4 := Lib.hid P; have HB4 := Lib.hid ((HB3.out).trans (B.mono (HB3.out).size)); clear P B))
  go_ret
  exact ⟨rfl, HB4.out⟩

set_option maxRecDepth 100000 in
set_option maxHeartbeats 4000000 in
theorem sjob_none (w : World) (k o p n : Int) (h1 : k ≠ 1) (h2 : k ≠ 2) (h3 : k ≠ 3) (h4 : k ≠ 4) (ho : In64 o) (hp : In64 p) (hn : In64 n) (ht : Tab w) :
    Calls Tryz.prog 26 #[.int .i64 o, .agg #[.int .i64 k, .int .i64 p, .int .i64 n]] w fun e w' => e = .returned (.string (bs ([]))) ∧ Below w.heap.size w w' := by
  have e : bs [] = { data := #[] } := rfl
  rw [e]
  have g1 : (k == 1) = false := by simpa using h1
  have g2 : (k == 2) = false := by simpa using h2
  have g3 : (k == 3) = false := by simpa using h3
  have g4 : (k == 4) = false := by simpa using h4
  clear e
  have HL1 := Lib.hid (dg_len ho)
  have HL2 := Lib.hid (dg_len hp)
  have HL3 := Lib.hid (dg_len hn)
  have HIo := Lib.hid ho
  have HIp := Lib.hid hp
  have HIn := Lib.hid hn
  clear ho hp hn
  have B0 : Below w.heap.size w (w.alloc (.cells #[.int .i64 k, .int .i64 p, .int .i64 n] 27)) := (Below.refl _ _).alloc (Nat.le_refl _) _
  have P0 : Blk (w.alloc (.cells #[.int .i64 k, .int .i64 p, .int .i64 n] 27)) w.heap.size 27 #[.int .i64 k, .int .i64 p, .int .i64 n] := Blk.new _ _ _
  have HT := Lib.hid ht
  have HB0 := Lib.hid B0
  have HP0 := Lib.hid P0
  clear ht B0 P0
  go_enter Tryz.func26, Tryz.ntmps26
  go_wp2_with fail
  go_region_held3 (fun w' => w'.cell? ⟨w.heap.size, 1, none⟩ = some (.int .i64 p)) (first | exact ⟨c1_1⟩ | exact ⟨c2_1⟩ | exact ⟨c3_1⟩ | go_keep)
    (first
    | (go_at_call 24; refine (digits_w o _ HIo.out (HT.out.below HB0.out.drew)).mono ?_; rintro e w1 ⟨rfl, B⟩; have P := (HP0.out.drew).below B HP0.out.lt; have c1_0 : w1.cell? ⟨w.heap.size, 0, none⟩ = some (.int .i64 k) := P.cell 0; have c1_1 : w1.cell? ⟨w.heap.size, 1, none⟩ = some (.int .i64 p) := P.cell 1; have c1_2 : w1.cell? ⟨w.heap.size, 2, none⟩ = some (.int .i64 n) := P.cell 2; have HP1 := Lib.hid P; have HB1 := Lib.hid ((HB0.out.drew).trans (B.mono (HB0.out.drew).size)); clear P B)
    | (go_at_call 24; refine (digits_w p _ HIp.out (HT.out.below HB1.out)).mono ?_; rintro e w2 ⟨rfl, B⟩; have P := (HP1.out).below B HP1.out.lt; have c2_0 : w2.cell? ⟨w.heap.size, 0, none⟩ = some (.int .i64 k) := P.cell 0; have c2_1 : w2.cell? ⟨w.heap.size, 1, none⟩ = some (.int .i64 p) := P.cell 1; have c2_2 : w2.cell? ⟨w.heap.size, 2, none⟩ = some (.int .i64 n) := P.cell 2; have HP2 := Lib.hid P; have HB2 := Lib.hid ((HB1.out).trans (B.mono (HB1.out).size)); clear P B)
    | (go_at_call 23; refine (words2 _ (dg o) (dg p) (by have := HL1.out; have := HL2.out; omega)).mono ?_; rintro e w3 ⟨rfl, B⟩; have P := (HP2.out).below B HP2.out.lt; have c3_0 : w3.cell? ⟨w.heap.size, 0, none⟩ = some (.int .i64 k) := P.cell 0; have c3_1 : w3.cell? ⟨w.heap.size, 1, none⟩ = some (.int .i64 p) := P.cell 1; have c3_2 : w3.cell? ⟨w.heap.size, 2, none⟩ = some (.int .i64 n) := P.cell 2; have HP3 := Lib.hid P; have HB3 := Lib.hid ((HB2.out).trans (B.mono (HB2.out).size)); clear P B))
  go_wp2_with (first
    | fail)
  go_ret
  exact ⟨rfl, HB3.out⟩

theorem job_w (w : World) (o k p n : Int) (ho : In64 o) (hp : In64 p) (hn : In64 n) (ht : Tab w) :
    Calls Tryz.prog 26 #[.int .i64 o, .agg #[.int .i64 k, .int .i64 p, .int .i64 n]] w fun e w' => e = .returned (.string (bs (jobP o k p n))) ∧ Below w.heap.size w w' := by
  unfold jobP placeP
  by_cases h1 : k = 1
  · subst h1; rw [if_pos rfl]; exact sjob_Move w o p n ho hp hn ht
  · rw [if_neg h1]
    by_cases h2 : k = 2
    · subst h2; rw [if_pos rfl]; exact sjob_Split w o p n ho hp hn ht
    · rw [if_neg h2]
      by_cases h3 : k = 3
      · subst h3; rw [if_pos rfl]; exact sjob_Join w o p n ho hp hn ht
      · rw [if_neg h3]
        by_cases h4 : k = 4
        · subst h4; rw [if_pos rfl]; exact sjob_Copy w o p n ho hp hn ht
        · rw [if_neg h4]; exact sjob_none w k o p n h1 h2 h3 h4 ho hp hn ht
theorem callP_len (c : Cl) (hp : In64 c.page) (hq : In64 c.pages) (hn : In64 c.pn) (ha : In64 c.addr) (hb : In64 c.byte) : (callP c).length ≤ 150 := by
  have h1 := dg_len hp
  have h2 := dg_len hq
  have h3 := permP_len c.perm
  have h4 := polP_len c.pk hn
  have h5 := dg_len ha
  have h6 := dg_len hb
  unfold callP pagesP
  repeat' split
  all_goals (simp [joinW2, joinW3, joinW4]; try omega)
theorem jobP_len {o k p n : Int} (ho : In64 o) (hp : In64 p) (hn : In64 n) : (jobP o k p n).length ≤ 100 := by
  have h1 := dg_len ho
  have h2 := dg_len hp
  have h3 := dg_len hn
  unfold jobP placeP
  repeat' split
  all_goals (simp [joinW2, joinW3]; try omega)

set_option maxRecDepth 100000 in
set_option maxHeartbeats 4000000 in
theorem sline_call (w : World) (o c0 c1 c2 c3 c4 c5 c6 c7 jk jp jn n : Int) (hc1 : In64 c1) (hc2 : In64 c2) (hc5 : In64 c5) (hc6 : In64 c6) (hc7 : In64 c7) (ho : In64 o) (hn : In64 n) (ht : Tab w) :
    Calls Tryz.prog 13 #[.agg #[.int .i64 1, .int .i64 o, .int .i64 c0, .int .i64 c1, .int .i64 c2, .int .i64 c3, .int .i64 c4, .int .i64 c5, .int .i64 c6, .int .i64 c7, .int .i64 jk, .int .i64 jp, .int .i64 jn, .int .i64 n]] w fun e w' => e = .returned (.string (bs (joinW [dg o, callP ⟨c0, c1, c2, c3, c4, c5, c6, c7⟩]))) ∧ Below w.heap.size w w' := by
  have hcw := fun (W : World) (hT : Tab W) => call_w W (⟨c0, c1, c2, c3, c4, c5, c6, c7⟩ : Cl) hc1 hc2 hc5 hc6 hc7 hT
  unfold Cl.arr at hcw
  simp only at hcw
  have HCW := Lib.hid hcw
  have HLC := Lib.hid (callP_len (⟨c0, c1, c2, c3, c4, c5, c6, c7⟩ : Cl) hc1 hc2 hc5 hc6 hc7)
  clear hcw hc1 hc2 hc5 hc6 hc7
  have HL1 := Lib.hid (dg_len ho)
  have HL3 := Lib.hid (dg_len hn)
  have HIo := Lib.hid ho
  have HIn := Lib.hid hn
  clear ho hn
  have B0 : Below w.heap.size w (w.alloc (.cells #[.int .i64 1, .int .i64 o, .int .i64 c0, .int .i64 c1, .int .i64 c2, .int .i64 c3, .int .i64 c4, .int .i64 c5, .int .i64 c6, .int .i64 c7, .int .i64 jk, .int .i64 jp, .int .i64 jn, .int .i64 n] 29)) := (Below.refl _ _).alloc (Nat.le_refl _) _
  have P0 : Blk (w.alloc (.cells #[.int .i64 1, .int .i64 o, .int .i64 c0, .int .i64 c1, .int .i64 c2, .int .i64 c3, .int .i64 c4, .int .i64 c5, .int .i64 c6, .int .i64 c7, .int .i64 jk, .int .i64 jp, .int .i64 jn, .int .i64 n] 29)) w.heap.size 29 #[.int .i64 1, .int .i64 o, .int .i64 c0, .int .i64 c1, .int .i64 c2, .int .i64 c3, .int .i64 c4, .int .i64 c5, .int .i64 c6, .int .i64 c7, .int .i64 jk, .int .i64 jp, .int .i64 jn, .int .i64 n] := Blk.new _ _ _
  have HT := Lib.hid ht
  have HB0 := Lib.hid B0
  have HP0 := Lib.hid P0
  clear ht B0 P0
  go_enter Tryz.func13, Tryz.ntmps13
  go_wp2_with fail
  go_region_held3 (fun w' => w'.cell? ⟨w.heap.size, 1, none⟩ = some (.int .i64 o) ∧ rowOf w' w.heap.size = #[.int .i64 1, .int .i64 o, .int .i64 c0, .int .i64 c1, .int .i64 c2, .int .i64 c3, .int .i64 c4, .int .i64 c5, .int .i64 c6, .int .i64 c7, .int .i64 jk, .int .i64 jp, .int .i64 jn, .int .i64 n] ∧ plainRow w' w.heap.size = true) (first | exact ⟨c1_1, r1, q1⟩ | exact ⟨c2_1, r2, q2⟩ | exact ⟨c3_1, r3, q3⟩ | (refine ⟨?_, ?_, ?_⟩ <;> go_simp; done) | go_keep)
    (first
    | (go_at_call 24; refine (digits_w o _ HIo.out (HT.out.below HB0.out.drew)).mono ?_; rintro e w1 ⟨rfl, B⟩; have P := (HP0.out.drew).below B HP0.out.lt; have c1_1 : w1.cell? ⟨w.heap.size, 1, none⟩ = some (.int .i64 o) := P.cell 1; have c1_13 : w1.cell? ⟨w.heap.size, 13, none⟩ = some (.int .i64 n) := P.cell 13; have r1 := P.rowOf; have q1 := P.plain; have l1 := P.lt; have HP1 := Lib.hid P; have HB1 := Lib.hid ((HB0.out.drew).trans (B.mono (HB0.out.drew).size)); clear P B)
    | (go_at_call 25; refine (HCW.out _ (HT.out.below HB1.out)).mono ?_; rintro e w2 ⟨rfl, B⟩; have P := (HP1.out).below B HP1.out.lt; have c2_1 : w2.cell? ⟨w.heap.size, 1, none⟩ = some (.int .i64 o) := P.cell 1; have c2_13 : w2.cell? ⟨w.heap.size, 13, none⟩ = some (.int .i64 n) := P.cell 13; have r2 := P.rowOf; have q2 := P.plain; have l2 := P.lt; have HP2 := Lib.hid P; have HB2 := Lib.hid ((HB1.out).trans (B.mono (HB1.out).size)); clear P B)
    | (go_at_call 23; refine (words2 _ (dg o) (callP ⟨c0, c1, c2, c3, c4, c5, c6, c7⟩) (by have := HL1.out; have := HLC.out; omega)).mono ?_; rintro e w3 ⟨rfl, B⟩; have P := (HP2.out).below B HP2.out.lt; have c3_1 : w3.cell? ⟨w.heap.size, 1, none⟩ = some (.int .i64 o) := P.cell 1; have c3_13 : w3.cell? ⟨w.heap.size, 13, none⟩ = some (.int .i64 n) := P.cell 13; have r3 := P.rowOf; have q3 := P.plain; have l3 := P.lt; have HP3 := Lib.hid P; have HB3 := Lib.hid ((HB2.out).trans (B.mono (HB2.out).size)); clear P B))
  go_wp2_with fail
  go_ret
  exact ⟨rfl, HB3.out⟩

set_option maxRecDepth 100000 in
set_option maxHeartbeats 4000000 in
theorem sline_Core (w : World) (o c0 c1 c2 c3 c4 c5 c6 c7 jk jp jn n : Int) (ho : In64 o) (hn : In64 n) (ht : Tab w) :
    Calls Tryz.prog 13 #[.agg #[.int .i64 2, .int .i64 o, .int .i64 c0, .int .i64 c1, .int .i64 c2, .int .i64 c3, .int .i64 c4, .int .i64 c5, .int .i64 c6, .int .i64 c7, .int .i64 jk, .int .i64 jp, .int .i64 jn, .int .i64 n]] w fun e w' => e = .returned (.string (bs (joinW [kCore, dg o]))) ∧ Below w.heap.size w w' := by
  have HL1 := Lib.hid (dg_len ho)
  have HL3 := Lib.hid (dg_len hn)
  have HIo := Lib.hid ho
  have HIn := Lib.hid hn
  clear ho hn
  have B0 : Below w.heap.size w (w.alloc (.cells #[.int .i64 2, .int .i64 o, .int .i64 c0, .int .i64 c1, .int .i64 c2, .int .i64 c3, .int .i64 c4, .int .i64 c5, .int .i64 c6, .int .i64 c7, .int .i64 jk, .int .i64 jp, .int .i64 jn, .int .i64 n] 29)) := (Below.refl _ _).alloc (Nat.le_refl _) _
  have P0 : Blk (w.alloc (.cells #[.int .i64 2, .int .i64 o, .int .i64 c0, .int .i64 c1, .int .i64 c2, .int .i64 c3, .int .i64 c4, .int .i64 c5, .int .i64 c6, .int .i64 c7, .int .i64 jk, .int .i64 jp, .int .i64 jn, .int .i64 n] 29)) w.heap.size 29 #[.int .i64 2, .int .i64 o, .int .i64 c0, .int .i64 c1, .int .i64 c2, .int .i64 c3, .int .i64 c4, .int .i64 c5, .int .i64 c6, .int .i64 c7, .int .i64 jk, .int .i64 jp, .int .i64 jn, .int .i64 n] := Blk.new _ _ _
  have HT := Lib.hid ht
  have HB0 := Lib.hid B0
  have HP0 := Lib.hid P0
  clear ht B0 P0
  go_enter Tryz.func13, Tryz.ntmps13
  go_wp2_with (first
    | (go_at_call 24; refine (digits_w o _ HIo.out (HT.out.below HB0.out)).mono ?_; rintro e w1 ⟨rfl, B⟩; have P := (HP0.out).below B HP0.out.lt; have c1_1 : w1.cell? ⟨w.heap.size, 1, none⟩ = some (.int .i64 o) := P.cell 1; have c1_13 : w1.cell? ⟨w.heap.size, 13, none⟩ = some (.int .i64 n) := P.cell 13; have HP1 := Lib.hid P; have HB1 := Lib.hid ((HB0.out).trans (B.mono (HB0.out).size)); clear P B)
    | (go_at_call 23; refine (words2 _ kCore (dg o) (by have := HL1.out; simp; omega)).mono ?_; rintro e w2 ⟨rfl, B⟩; have P := (HP1.out).below B HP1.out.lt; have c2_1 : w2.cell? ⟨w.heap.size, 1, none⟩ = some (.int .i64 o) := P.cell 1; have c2_13 : w2.cell? ⟨w.heap.size, 13, none⟩ = some (.int .i64 n) := P.cell 13; have HP2 := Lib.hid P; have HB2 := Lib.hid ((HB1.out).trans (B.mono (HB1.out).size)); clear P B))
  go_ret
  exact ⟨rfl, HB2.out⟩

set_option maxRecDepth 100000 in
set_option maxHeartbeats 4000000 in
theorem sline_Daemon (w : World) (o c0 c1 c2 c3 c4 c5 c6 c7 jk jp jn n : Int) (ho : In64 o) (hn : In64 n) (ht : Tab w) :
    Calls Tryz.prog 13 #[.agg #[.int .i64 4, .int .i64 o, .int .i64 c0, .int .i64 c1, .int .i64 c2, .int .i64 c3, .int .i64 c4, .int .i64 c5, .int .i64 c6, .int .i64 c7, .int .i64 jk, .int .i64 jp, .int .i64 jn, .int .i64 n]] w fun e w' => e = .returned (.string (bs (joinW [kDaemon, dg o]))) ∧ Below w.heap.size w w' := by
  have HL1 := Lib.hid (dg_len ho)
  have HL3 := Lib.hid (dg_len hn)
  have HIo := Lib.hid ho
  have HIn := Lib.hid hn
  clear ho hn
  have B0 : Below w.heap.size w (w.alloc (.cells #[.int .i64 4, .int .i64 o, .int .i64 c0, .int .i64 c1, .int .i64 c2, .int .i64 c3, .int .i64 c4, .int .i64 c5, .int .i64 c6, .int .i64 c7, .int .i64 jk, .int .i64 jp, .int .i64 jn, .int .i64 n] 29)) := (Below.refl _ _).alloc (Nat.le_refl _) _
  have P0 : Blk (w.alloc (.cells #[.int .i64 4, .int .i64 o, .int .i64 c0, .int .i64 c1, .int .i64 c2, .int .i64 c3, .int .i64 c4, .int .i64 c5, .int .i64 c6, .int .i64 c7, .int .i64 jk, .int .i64 jp, .int .i64 jn, .int .i64 n] 29)) w.heap.size 29 #[.int .i64 4, .int .i64 o, .int .i64 c0, .int .i64 c1, .int .i64 c2, .int .i64 c3, .int .i64 c4, .int .i64 c5, .int .i64 c6, .int .i64 c7, .int .i64 jk, .int .i64 jp, .int .i64 jn, .int .i64 n] := Blk.new _ _ _
  have HT := Lib.hid ht
  have HB0 := Lib.hid B0
  have HP0 := Lib.hid P0
  clear ht B0 P0
  go_enter Tryz.func13, Tryz.ntmps13
  go_wp2_with (first
    | (go_at_call 24; refine (digits_w o _ HIo.out (HT.out.below HB0.out)).mono ?_; rintro e w1 ⟨rfl, B⟩; have P := (HP0.out).below B HP0.out.lt; have c1_1 : w1.cell? ⟨w.heap.size, 1, none⟩ = some (.int .i64 o) := P.cell 1; have c1_13 : w1.cell? ⟨w.heap.size, 13, none⟩ = some (.int .i64 n) := P.cell 13; have HP1 := Lib.hid P; have HB1 := Lib.hid ((HB0.out).trans (B.mono (HB0.out).size)); clear P B)
    | (go_at_call 23; refine (words2 _ kDaemon (dg o) (by have := HL1.out; simp; omega)).mono ?_; rintro e w2 ⟨rfl, B⟩; have P := (HP1.out).below B HP1.out.lt; have c2_1 : w2.cell? ⟨w.heap.size, 1, none⟩ = some (.int .i64 o) := P.cell 1; have c2_13 : w2.cell? ⟨w.heap.size, 13, none⟩ = some (.int .i64 n) := P.cell 13; have HP2 := Lib.hid P; have HB2 := Lib.hid ((HB1.out).trans (B.mono (HB1.out).size)); clear P B))
  go_ret
  exact ⟨rfl, HB2.out⟩

set_option maxRecDepth 100000 in
set_option maxHeartbeats 4000000 in
theorem sline_Evict (w : World) (o c0 c1 c2 c3 c4 c5 c6 c7 jk jp jn n : Int) (ho : In64 o) (hn : In64 n) (ht : Tab w) :
    Calls Tryz.prog 13 #[.agg #[.int .i64 5, .int .i64 o, .int .i64 c0, .int .i64 c1, .int .i64 c2, .int .i64 c3, .int .i64 c4, .int .i64 c5, .int .i64 c6, .int .i64 c7, .int .i64 jk, .int .i64 jp, .int .i64 jn, .int .i64 n]] w fun e w' => e = .returned (.string (bs (joinW [kEvict, dg o, dg n]))) ∧ Below w.heap.size w w' := by
  have HL1 := Lib.hid (dg_len ho)
  have HL3 := Lib.hid (dg_len hn)
  have HIo := Lib.hid ho
  have HIn := Lib.hid hn
  clear ho hn
  have B0 : Below w.heap.size w (w.alloc (.cells #[.int .i64 5, .int .i64 o, .int .i64 c0, .int .i64 c1, .int .i64 c2, .int .i64 c3, .int .i64 c4, .int .i64 c5, .int .i64 c6, .int .i64 c7, .int .i64 jk, .int .i64 jp, .int .i64 jn, .int .i64 n] 29)) := (Below.refl _ _).alloc (Nat.le_refl _) _
  have P0 : Blk (w.alloc (.cells #[.int .i64 5, .int .i64 o, .int .i64 c0, .int .i64 c1, .int .i64 c2, .int .i64 c3, .int .i64 c4, .int .i64 c5, .int .i64 c6, .int .i64 c7, .int .i64 jk, .int .i64 jp, .int .i64 jn, .int .i64 n] 29)) w.heap.size 29 #[.int .i64 5, .int .i64 o, .int .i64 c0, .int .i64 c1, .int .i64 c2, .int .i64 c3, .int .i64 c4, .int .i64 c5, .int .i64 c6, .int .i64 c7, .int .i64 jk, .int .i64 jp, .int .i64 jn, .int .i64 n] := Blk.new _ _ _
  have HT := Lib.hid ht
  have HB0 := Lib.hid B0
  have HP0 := Lib.hid P0
  clear ht B0 P0
  go_enter Tryz.func13, Tryz.ntmps13
  go_wp2_with fail
  go_region_held3 (fun w' => w'.cell? ⟨w.heap.size, 1, none⟩ = some (.int .i64 o) ∧ w'.cell? ⟨w.heap.size, 13, none⟩ = some (.int .i64 n)) (first | exact ⟨c1_1, c1_13⟩ | exact ⟨c2_1, c2_13⟩ | exact ⟨c3_1, c3_13⟩ | go_keep)
    (first
    | (go_at_call 24; refine (digits_w o _ HIo.out (HT.out.below HB0.out.drew)).mono ?_; rintro e w1 ⟨rfl, B⟩; have P := (HP0.out.drew).below B HP0.out.lt; have c1_1 : w1.cell? ⟨w.heap.size, 1, none⟩ = some (.int .i64 o) := P.cell 1; have c1_13 : w1.cell? ⟨w.heap.size, 13, none⟩ = some (.int .i64 n) := P.cell 13; have HP1 := Lib.hid P; have HB1 := Lib.hid ((HB0.out.drew).trans (B.mono (HB0.out.drew).size)); clear P B)
    | (go_at_call 24; refine (digits_w n _ HIn.out (HT.out.below HB1.out)).mono ?_; rintro e w2 ⟨rfl, B⟩; have P := (HP1.out).below B HP1.out.lt; have c2_1 : w2.cell? ⟨w.heap.size, 1, none⟩ = some (.int .i64 o) := P.cell 1; have c2_13 : w2.cell? ⟨w.heap.size, 13, none⟩ = some (.int .i64 n) := P.cell 13; have HP2 := Lib.hid P; have HB2 := Lib.hid ((HB1.out).trans (B.mono (HB1.out).size)); clear P B)
    | (go_at_call 23; refine (words3 _ kEvict (dg o) (dg n) (by have := HL1.out; have := HL3.out; simp; omega)).mono ?_; rintro e w3 ⟨rfl, B⟩; have P := (HP2.out).below B HP2.out.lt; have c3_1 : w3.cell? ⟨w.heap.size, 1, none⟩ = some (.int .i64 o) := P.cell 1; have c3_13 : w3.cell? ⟨w.heap.size, 13, none⟩ = some (.int .i64 n) := P.cell 13; have HP3 := Lib.hid P; have HB3 := Lib.hid ((HB2.out).trans (B.mono (HB2.out).size)); clear P B))
  go_wp2_with fail
  go_ret
  exact ⟨rfl, HB3.out⟩

set_option maxRecDepth 100000 in
set_option maxHeartbeats 4000000 in
theorem sline_Rounds (w : World) (o c0 c1 c2 c3 c4 c5 c6 c7 jk jp jn n : Int) (ho : In64 o) (hn : In64 n) (ht : Tab w) :
    Calls Tryz.prog 13 #[.agg #[.int .i64 6, .int .i64 o, .int .i64 c0, .int .i64 c1, .int .i64 c2, .int .i64 c3, .int .i64 c4, .int .i64 c5, .int .i64 c6, .int .i64 c7, .int .i64 jk, .int .i64 jp, .int .i64 jn, .int .i64 n]] w fun e w' => e = .returned (.string (bs (joinW [kRounds, dg n]))) ∧ Below w.heap.size w w' := by
  have HL1 := Lib.hid (dg_len ho)
  have HL3 := Lib.hid (dg_len hn)
  have HIo := Lib.hid ho
  have HIn := Lib.hid hn
  clear ho hn
  have B0 : Below w.heap.size w (w.alloc (.cells #[.int .i64 6, .int .i64 o, .int .i64 c0, .int .i64 c1, .int .i64 c2, .int .i64 c3, .int .i64 c4, .int .i64 c5, .int .i64 c6, .int .i64 c7, .int .i64 jk, .int .i64 jp, .int .i64 jn, .int .i64 n] 29)) := (Below.refl _ _).alloc (Nat.le_refl _) _
  have P0 : Blk (w.alloc (.cells #[.int .i64 6, .int .i64 o, .int .i64 c0, .int .i64 c1, .int .i64 c2, .int .i64 c3, .int .i64 c4, .int .i64 c5, .int .i64 c6, .int .i64 c7, .int .i64 jk, .int .i64 jp, .int .i64 jn, .int .i64 n] 29)) w.heap.size 29 #[.int .i64 6, .int .i64 o, .int .i64 c0, .int .i64 c1, .int .i64 c2, .int .i64 c3, .int .i64 c4, .int .i64 c5, .int .i64 c6, .int .i64 c7, .int .i64 jk, .int .i64 jp, .int .i64 jn, .int .i64 n] := Blk.new _ _ _
  have HT := Lib.hid ht
  have HB0 := Lib.hid B0
  have HP0 := Lib.hid P0
  clear ht B0 P0
  go_enter Tryz.func13, Tryz.ntmps13
  go_wp2_with (first
    | (go_at_call 24; refine (digits_w n _ HIn.out (HT.out.below HB0.out)).mono ?_; rintro e w1 ⟨rfl, B⟩; have P := (HP0.out).below B HP0.out.lt; have c1_1 : w1.cell? ⟨w.heap.size, 1, none⟩ = some (.int .i64 o) := P.cell 1; have c1_13 : w1.cell? ⟨w.heap.size, 13, none⟩ = some (.int .i64 n) := P.cell 13; have HP1 := Lib.hid P; have HB1 := Lib.hid ((HB0.out).trans (B.mono (HB0.out).size)); clear P B)
    | (go_at_call 23; refine (words2 _ kRounds (dg n) (by have := HL3.out; simp; omega)).mono ?_; rintro e w2 ⟨rfl, B⟩; have P := (HP1.out).below B HP1.out.lt; have c2_1 : w2.cell? ⟨w.heap.size, 1, none⟩ = some (.int .i64 o) := P.cell 1; have c2_13 : w2.cell? ⟨w.heap.size, 13, none⟩ = some (.int .i64 n) := P.cell 13; have HP2 := Lib.hid P; have HB2 := Lib.hid ((HB1.out).trans (B.mono (HB1.out).size)); clear P B))
  go_ret
  exact ⟨rfl, HB2.out⟩

set_option maxRecDepth 100000 in
set_option maxHeartbeats 4000000 in
theorem sline_job (w : World) (o c0 c1 c2 c3 c4 c5 c6 c7 jk jp jn n : Int) (hjp : In64 jp) (hjn : In64 jn) (ho : In64 o) (hn : In64 n) (ht : Tab w) :
    Calls Tryz.prog 13 #[.agg #[.int .i64 3, .int .i64 o, .int .i64 c0, .int .i64 c1, .int .i64 c2, .int .i64 c3, .int .i64 c4, .int .i64 c5, .int .i64 c6, .int .i64 c7, .int .i64 jk, .int .i64 jp, .int .i64 jn, .int .i64 n]] w fun e w' => e = .returned (.string (bs (jobP o jk jp jn))) ∧ Below w.heap.size w w' := by
  have HIp := Lib.hid hjp
  have HIj := Lib.hid hjn
  clear hjp hjn
  have HL1 := Lib.hid (dg_len ho)
  have HL3 := Lib.hid (dg_len hn)
  have HIo := Lib.hid ho
  have HIn := Lib.hid hn
  clear ho hn
  have B0 : Below w.heap.size w (w.alloc (.cells #[.int .i64 3, .int .i64 o, .int .i64 c0, .int .i64 c1, .int .i64 c2, .int .i64 c3, .int .i64 c4, .int .i64 c5, .int .i64 c6, .int .i64 c7, .int .i64 jk, .int .i64 jp, .int .i64 jn, .int .i64 n] 29)) := (Below.refl _ _).alloc (Nat.le_refl _) _
  have P0 : Blk (w.alloc (.cells #[.int .i64 3, .int .i64 o, .int .i64 c0, .int .i64 c1, .int .i64 c2, .int .i64 c3, .int .i64 c4, .int .i64 c5, .int .i64 c6, .int .i64 c7, .int .i64 jk, .int .i64 jp, .int .i64 jn, .int .i64 n] 29)) w.heap.size 29 #[.int .i64 3, .int .i64 o, .int .i64 c0, .int .i64 c1, .int .i64 c2, .int .i64 c3, .int .i64 c4, .int .i64 c5, .int .i64 c6, .int .i64 c7, .int .i64 jk, .int .i64 jp, .int .i64 jn, .int .i64 n] := Blk.new _ _ _
  have HT := Lib.hid ht
  have HB0 := Lib.hid B0
  have HP0 := Lib.hid P0
  clear ht B0 P0
  go_enter Tryz.func13, Tryz.ntmps13
  go_wp2_with (first
    | (go_at_call 26; refine (job_w _ o jk jp jn HIo.out HIp.out HIj.out (HT.out.below HB0.out)).mono ?_; rintro e w1 ⟨rfl, B⟩; have P := (HP0.out).below B HP0.out.lt; have c1_1 : w1.cell? ⟨w.heap.size, 1, none⟩ = some (.int .i64 o) := P.cell 1; have c1_13 : w1.cell? ⟨w.heap.size, 13, none⟩ = some (.int .i64 n) := P.cell 13; have HP1 := Lib.hid P; have HB1 := Lib.hid ((HB0.out).trans (B.mono (HB0.out).size)); clear P B))
  go_ret
  exact ⟨rfl, HB1.out⟩

set_option maxRecDepth 100000 in
set_option maxHeartbeats 4000000 in
theorem sline_none (w : World) (k o c0 c1 c2 c3 c4 c5 c6 c7 jk jp jn n : Int) (h1 : k ≠ 1) (h2 : k ≠ 2) (h3 : k ≠ 3) (h4 : k ≠ 4) (h5 : k ≠ 5) (h6 : k ≠ 6) (ho : In64 o) (hn : In64 n) (ht : Tab w) :
    Calls Tryz.prog 13 #[.agg #[.int .i64 k, .int .i64 o, .int .i64 c0, .int .i64 c1, .int .i64 c2, .int .i64 c3, .int .i64 c4, .int .i64 c5, .int .i64 c6, .int .i64 c7, .int .i64 jk, .int .i64 jp, .int .i64 jn, .int .i64 n]] w fun e w' => e = .returned (.string (bs ([]))) ∧ Below w.heap.size w w' := by
  have e : bs [] = { data := #[] } := rfl
  rw [e]
  have g1 : (k == 1) = false := by simpa using h1
  have g2 : (k == 2) = false := by simpa using h2
  have g3 : (k == 3) = false := by simpa using h3
  have g4 : (k == 4) = false := by simpa using h4
  have g5 : (k == 5) = false := by simpa using h5
  have g6 : (k == 6) = false := by simpa using h6
  clear e
  have HL1 := Lib.hid (dg_len ho)
  have HL3 := Lib.hid (dg_len hn)
  have HIo := Lib.hid ho
  have HIn := Lib.hid hn
  clear ho hn
  have B0 : Below w.heap.size w (w.alloc (.cells #[.int .i64 k, .int .i64 o, .int .i64 c0, .int .i64 c1, .int .i64 c2, .int .i64 c3, .int .i64 c4, .int .i64 c5, .int .i64 c6, .int .i64 c7, .int .i64 jk, .int .i64 jp, .int .i64 jn, .int .i64 n] 29)) := (Below.refl _ _).alloc (Nat.le_refl _) _
  have P0 : Blk (w.alloc (.cells #[.int .i64 k, .int .i64 o, .int .i64 c0, .int .i64 c1, .int .i64 c2, .int .i64 c3, .int .i64 c4, .int .i64 c5, .int .i64 c6, .int .i64 c7, .int .i64 jk, .int .i64 jp, .int .i64 jn, .int .i64 n] 29)) w.heap.size 29 #[.int .i64 k, .int .i64 o, .int .i64 c0, .int .i64 c1, .int .i64 c2, .int .i64 c3, .int .i64 c4, .int .i64 c5, .int .i64 c6, .int .i64 c7, .int .i64 jk, .int .i64 jp, .int .i64 jn, .int .i64 n] := Blk.new _ _ _
  have HT := Lib.hid ht
  have HB0 := Lib.hid B0
  have HP0 := Lib.hid P0
  clear ht B0 P0
  go_enter Tryz.func13, Tryz.ntmps13
  go_wp2_with (first
    | fail)
  go_ret
  exact ⟨rfl, HB0.out⟩

/-- Each number is an int. -/
structure Wide (x : Itm) : Prop where
  o : In64 x.who
  n : In64 x.n
  c1 : In64 x.call.page
  c2 : In64 x.call.pages
  c5 : In64 x.call.pn
  c6 : In64 x.call.addr
  c7 : In64 x.call.byte
  jp : In64 x.jp
  jn : In64 x.jn
theorem line_w (w : World) (x : Itm) (h : Wide x) (ht : Tab w) :
    Calls Tryz.prog 13 #[.agg x.arr] w fun e w' => e = .returned (.string (bs (lineP x))) ∧ Below w.heap.size w w' := by
  obtain ⟨k, o, ⟨c0, c1, c2, c3, c4, c5, c6, c7⟩, jk, jp, jn, n⟩ := x
  obtain ⟨ho, hn, hc1, hc2, hc5, hc6, hc7, hjp, hjn⟩ := h
  have e : Itm.arr ⟨k, o, ⟨c0, c1, c2, c3, c4, c5, c6, c7⟩, jk, jp, jn, n⟩ = #[.int .i64 k, .int .i64 o, .int .i64 c0, .int .i64 c1, .int .i64 c2, .int .i64 c3, .int .i64 c4, .int .i64 c5, .int .i64 c6, .int .i64 c7, .int .i64 jk, .int .i64 jp, .int .i64 jn, .int .i64 n] := rfl
  rw [e]
  unfold lineP
  simp only at ho hn hc1 hc2 hc5 hc6 hc7 hjp hjn ⊢
  by_cases h1 : k = 1
  · subst h1; rw [if_pos rfl]; exact sline_call w o c0 c1 c2 c3 c4 c5 c6 c7 jk jp jn n hc1 hc2 hc5 hc6 hc7 ho hn ht
  · rw [if_neg h1]
    by_cases h2 : k = 2
    · subst h2; rw [if_pos rfl]; exact sline_Core w o c0 c1 c2 c3 c4 c5 c6 c7 jk jp jn n ho hn ht
    · rw [if_neg h2]
      by_cases h4 : k = 4
      · subst h4; rw [if_pos rfl]; exact sline_Daemon w o c0 c1 c2 c3 c4 c5 c6 c7 jk jp jn n ho hn ht
      · rw [if_neg h4]
        by_cases h5 : k = 5
        · subst h5; rw [if_pos rfl]; exact sline_Evict w o c0 c1 c2 c3 c4 c5 c6 c7 jk jp jn n ho hn ht
        · rw [if_neg h5]
          by_cases h6 : k = 6
          · subst h6; rw [if_pos rfl]; exact sline_Rounds w o c0 c1 c2 c3 c4 c5 c6 c7 jk jp jn n ho hn ht
          · rw [if_neg h6]
            by_cases h3 : k = 3
            · subst h3; rw [if_pos rfl]; exact sline_job w o c0 c1 c2 c3 c4 c5 c6 c7 jk jp jn n hjp hjn ho hn ht
            · rw [if_neg h3]; exact sline_none w k o c0 c1 c2 c3 c4 c5 c6 c7 jk jp jn n h1 h2 h3 h4 h5 h6 ho hn ht
theorem lineP_len (x : Itm) (h : Wide x) : (lineP x).length ≤ 200 := by
  have h1 := dg_len h.o
  have h2 := dg_len h.n
  have h3 := callP_len x.call h.c1 h.c2 h.c5 h.c6 h.c7
  have h4 := jobP_len (k := x.jk) h.o h.jp h.jn
  unfold lineP
  repeat' split
  all_goals (simp [joinW2, joinW3]; try omega)
end Go.Proofs.YtccoafacbbkooaaGreatDoor
