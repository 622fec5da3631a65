/- Script: the program's call. Printed by mkScY.py. -/
import Derived.Test.YtccoafacbbkooaaGreatDoorScX
namespace Go.Proofs.YtccoafacbbkooaaGreatDoor
open Go.RowKit Go.Maps

set_option maxRecDepth 100000 in
set_option maxHeartbeats 4000000 in
theorem scall_Map (w : World) (p q pm pk pn a b : Int) (hp : In64 p) (hq : In64 q) (hn : In64 pn) (ha : In64 a) (hb : In64 b) (ht : Tab w) :
    Calls Tryz.prog 25 #[.agg #[.int .i64 1, .int .i64 p, .int .i64 q, .int .i64 pm, .int .i64 pk, .int .i64 pn, .int .i64 a, .int .i64 b]] w fun e w' => e = .returned (.string (bs (joinW [kMap, (joinW [dg p, dg q]), permP pm, polP pk pn]))) ∧ Below w.heap.size w w' := by
  have HL1 := Lib.hid (dg_len hp)
  have HL2 := Lib.hid (dg_len hq)
  have HL3 := Lib.hid (permP_len pm)
  have HL4 := Lib.hid (polP_len pk hn)
  have HL5 := Lib.hid (dg_len ha)
  have HL6 := Lib.hid (dg_len hb)
  have HIp := Lib.hid hp
  have HIq := Lib.hid hq
  have HIn := Lib.hid hn
  have HIa := Lib.hid ha
  have HIb := Lib.hid hb
  clear hp hq hn ha hb
  have B0 : Below w.heap.size w (w.alloc (.cells #[.int .i64 1, .int .i64 p, .int .i64 q, .int .i64 pm, .int .i64 pk, .int .i64 pn, .int .i64 a, .int .i64 b] 25)) := (Below.refl _ _).alloc (Nat.le_refl _) _
  have P0 : Blk (w.alloc (.cells #[.int .i64 1, .int .i64 p, .int .i64 q, .int .i64 pm, .int .i64 pk, .int .i64 pn, .int .i64 a, .int .i64 b] 25)) w.heap.size 25 #[.int .i64 1, .int .i64 p, .int .i64 q, .int .i64 pm, .int .i64 pk, .int .i64 pn, .int .i64 a, .int .i64 b] := Blk.new _ _ _
  have HT := Lib.hid ht
  have HB0 := Lib.hid B0
  have HP0 := Lib.hid P0
  clear ht B0 P0
  go_enter Tryz.func25, Tryz.ntmps25
  go_wp2_with fail
  go_region_held3 (fun w' => w'.cell? ⟨w.heap.size, 1, none⟩ = some (.int .i64 p) ∧ w'.cell? ⟨w.heap.size, 2, none⟩ = some (.int .i64 q)) (first | exact ⟨c1_1, c1_2⟩ | exact ⟨c2_1, c2_2⟩ | exact ⟨c3_1, c3_2⟩ | go_keep)
    (first
    | (go_at_call 24; refine (digits_w p _ HIp.out (HT.out.below HB0.out.drew)).mono ?_; rintro e w1 ⟨rfl, B⟩; have P := (HP0.out.drew).below B HP0.out.lt; have c1_0 : w1.cell? ⟨w.heap.size, 0, none⟩ = some (.int .i64 1) := P.cell 0; have c1_1 : w1.cell? ⟨w.heap.size, 1, none⟩ = some (.int .i64 p) := P.cell 1; have c1_2 : w1.cell? ⟨w.heap.size, 2, none⟩ = some (.int .i64 q) := P.cell 2; have c1_3 : w1.cell? ⟨w.heap.size, 3, none⟩ = some (.int .i64 pm) := P.cell 3; have r1 := P.rowOf; have q1 := P.plain; have l1 := P.lt; have HP1 := Lib.hid P; have HB1 := Lib.hid ((HB0.out.drew).trans (B.mono (HB0.out.drew).size)); clear P B)
    | (go_at_call 24; refine (digits_w q _ HIq.out (HT.out.below HB1.out)).mono ?_; rintro e w2 ⟨rfl, B⟩; have P := (HP1.out).below B HP1.out.lt; have c2_0 : w2.cell? ⟨w.heap.size, 0, none⟩ = some (.int .i64 1) := P.cell 0; have c2_1 : w2.cell? ⟨w.heap.size, 1, none⟩ = some (.int .i64 p) := P.cell 1; have c2_2 : w2.cell? ⟨w.heap.size, 2, none⟩ = some (.int .i64 q) := P.cell 2; have c2_3 : w2.cell? ⟨w.heap.size, 3, none⟩ = some (.int .i64 pm) := P.cell 3; have r2 := P.rowOf; have q2 := P.plain; have l2 := P.lt; have HP2 := Lib.hid P; have HB2 := Lib.hid ((HB1.out).trans (B.mono (HB1.out).size)); clear P B)
    | (go_at_call 23; refine (words2 _ (dg p) (dg q) (by have := HL1.out; have := HL2.out; omega)).mono ?_; rintro e w3 ⟨rfl, B⟩; have P := (HP2.out).below B HP2.out.lt; have c3_0 : w3.cell? ⟨w.heap.size, 0, none⟩ = some (.int .i64 1) := P.cell 0; have c3_1 : w3.cell? ⟨w.heap.size, 1, none⟩ = some (.int .i64 p) := P.cell 1; have c3_2 : w3.cell? ⟨w.heap.size, 2, none⟩ = some (.int .i64 q) := P.cell 2; have c3_3 : w3.cell? ⟨w.heap.size, 3, none⟩ = some (.int .i64 pm) := P.cell 3; have r3 := P.rowOf; have q3 := P.plain; have l3 := P.lt; have HP3 := Lib.hid P; have HB3 := Lib.hid ((HB2.out).trans (B.mono (HB2.out).size)); clear P B))
  go_wp2_with fail
  go_region_held3 (fun w' => w'.cell? ⟨w.heap.size, 3, none⟩ = some (.int .i64 pm) ∧ rowOf w' w.heap.size = #[.int .i64 1, .int .i64 p, .int .i64 q, .int .i64 pm, .int .i64 pk, .int .i64 pn, .int .i64 a, .int .i64 b] ∧ plainRow w' w.heap.size = true) (first | exact ⟨c3_3, r3, q3⟩ | exact ⟨c4_3, r4, q4⟩ | exact ⟨c5_3, r5, q5⟩ | (refine ⟨?_, ?_, ?_⟩ <;> go_simp; done) | go_keep)
    (first
    | (go_at_call 43; refine (perm_w _ _).mono ?_; rintro e w9 ⟨rfl, rfl⟩)
    | (go_at_call 44; refine (policy_w pk pn _ HIn.out (HT.out.below HB3.out.drew)).mono ?_; rintro e w4 ⟨rfl, B⟩; have P := (HP3.out.drew).below B HP3.out.lt; have c4_0 : w4.cell? ⟨w.heap.size, 0, none⟩ = some (.int .i64 1) := P.cell 0; have c4_1 : w4.cell? ⟨w.heap.size, 1, none⟩ = some (.int .i64 p) := P.cell 1; have c4_2 : w4.cell? ⟨w.heap.size, 2, none⟩ = some (.int .i64 q) := P.cell 2; have c4_3 : w4.cell? ⟨w.heap.size, 3, none⟩ = some (.int .i64 pm) := P.cell 3; have r4 := P.rowOf; have q4 := P.plain; have l4 := P.lt; have HP4 := Lib.hid P; have HB4 := Lib.hid ((HB3.out.drew).trans (B.mono (HB3.out.drew).size)); clear P B)
    | (go_at_call 23; refine (words4 _ kMap (joinW [dg p, dg q]) (permP pm) (polP pk pn) (by have := HL1.out; have := HL2.out; have := HL3.out; have := HL4.out; simp [joinW2]; omega)).mono ?_; rintro e w5 ⟨rfl, B⟩; have P := (HP4.out).below B HP4.out.lt; have c5_0 : w5.cell? ⟨w.heap.size, 0, none⟩ = some (.int .i64 1) := P.cell 0; have c5_1 : w5.cell? ⟨w.heap.size, 1, none⟩ = some (.int .i64 p) := P.cell 1; have c5_2 : w5.cell? ⟨w.heap.size, 2, none⟩ = some (.int .i64 q) := P.cell 2; have c5_3 : w5.cell? ⟨w.heap.size, 3, none⟩ = some (.int .i64 pm) := P.cell 3; have r5 := P.rowOf; have q5 := P.plain; have l5 := P.lt; have HP5 := Lib.hid P; have HB5 := Lib.hid ((HB4.out).trans (B.mono (HB4.out).size)); clear P B))
  go_wp2_with fail
  go_ret
  exact ⟨rfl, HB5.out⟩

set_option maxRecDepth 100000 in
set_option maxHeartbeats 4000000 in
theorem scall_Unmap (w : World) (p q pm pk pn a b : Int) (hp : In64 p) (hq : In64 q) (hn : In64 pn) (ha : In64 a) (hb : In64 b) (ht : Tab w) :
    Calls Tryz.prog 25 #[.agg #[.int .i64 2, .int .i64 p, .int .i64 q, .int .i64 pm, .int .i64 pk, .int .i64 pn, .int .i64 a, .int .i64 b]] w fun e w' => e = .returned (.string (bs (joinW [kUnmap, (joinW [dg p, dg q])]))) ∧ Below w.heap.size w w' := by
  have HL1 := Lib.hid (dg_len hp)
  have HL2 := Lib.hid (dg_len hq)
  have HL3 := Lib.hid (permP_len pm)
  have HL4 := Lib.hid (polP_len pk hn)
  have HL5 := Lib.hid (dg_len ha)
  have HL6 := Lib.hid (dg_len hb)
  have HIp := Lib.hid hp
  have HIq := Lib.hid hq
  have HIn := Lib.hid hn
  have HIa := Lib.hid ha
  have HIb := Lib.hid hb
  clear hp hq hn ha hb
  have B0 : Below w.heap.size w (w.alloc (.cells #[.int .i64 2, .int .i64 p, .int .i64 q, .int .i64 pm, .int .i64 pk, .int .i64 pn, .int .i64 a, .int .i64 b] 25)) := (Below.refl _ _).alloc (Nat.le_refl _) _
  have P0 : Blk (w.alloc (.cells #[.int .i64 2, .int .i64 p, .int .i64 q, .int .i64 pm, .int .i64 pk, .int .i64 pn, .int .i64 a, .int .i64 b] 25)) w.heap.size 25 #[.int .i64 2, .int .i64 p, .int .i64 q, .int .i64 pm, .int .i64 pk, .int .i64 pn, .int .i64 a, .int .i64 b] := Blk.new _ _ _
  have HT := Lib.hid ht
  have HB0 := Lib.hid B0
  have HP0 := Lib.hid P0
  clear ht B0 P0
  go_enter Tryz.func25, Tryz.ntmps25
  go_wp2_with fail
  go_region_held3 (fun w' => w'.cell? ⟨w.heap.size, 1, none⟩ = some (.int .i64 p) ∧ w'.cell? ⟨w.heap.size, 2, none⟩ = some (.int .i64 q)) (first | exact ⟨c1_1, c1_2⟩ | exact ⟨c2_1, c2_2⟩ | exact ⟨c3_1, c3_2⟩ | go_keep)
    (first
    | (go_at_call 24; refine (digits_w p _ HIp.out (HT.out.below HB0.out.drew)).mono ?_; rintro e w1 ⟨rfl, B⟩; have P := (HP0.out.drew).below B HP0.out.lt; have c1_0 : w1.cell? ⟨w.heap.size, 0, none⟩ = some (.int .i64 2) := P.cell 0; have c1_1 : w1.cell? ⟨w.heap.size, 1, none⟩ = some (.int .i64 p) := P.cell 1; have c1_2 : w1.cell? ⟨w.heap.size, 2, none⟩ = some (.int .i64 q) := P.cell 2; have HP1 := Lib.hid P; have HB1 := Lib.hid ((HB0.out.drew).trans (B.mono (HB0.out.drew).size)); clear P B)
    | (go_at_call 24; refine (digits_w q _ HIq.out (HT.out.below HB1.out)).mono ?_; rintro e w2 ⟨rfl, B⟩; have P := (HP1.out).below B HP1.out.lt; have c2_0 : w2.cell? ⟨w.heap.size, 0, none⟩ = some (.int .i64 2) := P.cell 0; have c2_1 : w2.cell? ⟨w.heap.size, 1, none⟩ = some (.int .i64 p) := P.cell 1; have c2_2 : w2.cell? ⟨w.heap.size, 2, none⟩ = some (.int .i64 q) := P.cell 2; have HP2 := Lib.hid P; have HB2 := Lib.hid ((HB1.out).trans (B.mono (HB1.out).size)); clear P B)
    | (go_at_call 23; refine (words2 _ (dg p) (dg q) (by have := HL1.out; have := HL2.out; omega)).mono ?_; rintro e w3 ⟨rfl, B⟩; have P := (HP2.out).below B HP2.out.lt; have c3_0 : w3.cell? ⟨w.heap.size, 0, none⟩ = some (.int .i64 2) := P.cell 0; have c3_1 : w3.cell? ⟨w.heap.size, 1, none⟩ = some (.int .i64 p) := P.cell 1; have c3_2 : w3.cell? ⟨w.heap.size, 2, none⟩ = some (.int .i64 q) := P.cell 2; have HP3 := Lib.hid P; have HB3 := Lib.hid ((HB2.out).trans (B.mono (HB2.out).size)); clear P B))
  go_wp2_with (first
    | (go_at_call 23; refine (words2 _ kUnmap (joinW [dg p, dg q]) (by have := HL1.out; have := HL2.out; have := HL3.out; have := HL4.out; simp [joinW2]; omega)).mono ?_; rintro e w4 ⟨rfl, B⟩; have P := (HP3.out).below B HP3.out.lt; have c4_0 : w4.cell? ⟨w.heap.size, 0, none⟩ = some (.int .i64 2) := P.cell 0; have c4_1 : w4.cell? ⟨w.heap.size, 1, none⟩ = some (.int .i64 p) := P.cell 1; have c4_2 : w4.cell? ⟨w.heap.size, 2, none⟩ = some (.int .i64 q) := P.cell 2; have HP4 := Lib.hid P; have HB4 := Lib.hid ((HB3.out).trans (B.mono (HB3.out).size)); clear P B))
  go_ret
  exact ⟨rfl, HB4.out⟩

set_option maxRecDepth 100000 in
set_option maxHeartbeats 4000000 in
theorem scall_Protect (w : World) (p q pm pk pn a b : Int) (hp : In64 p) (hq : In64 q) (hn : In64 pn) (ha : In64 a) (hb : In64 b) (ht : Tab w) :
    Calls Tryz.prog 25 #[.agg #[.int .i64 3, .int .i64 p, .int .i64 q, .int .i64 pm, .int .i64 pk, .int .i64 pn, .int .i64 a, .int .i64 b]] w fun e w' => e = .returned (.string (bs (joinW [kProtect, (joinW [dg p, dg q]), permP pm]))) ∧ Below w.heap.size w w' := by
  have HL1 := Lib.hid (dg_len hp)
  have HL2 := Lib.hid (dg_len hq)
  have HL3 := Lib.hid (permP_len pm)
  have HL4 := Lib.hid (polP_len pk hn)
  have HL5 := Lib.hid (dg_len ha)
  have HL6 := Lib.hid (dg_len hb)
  have HIp := Lib.hid hp
  have HIq := Lib.hid hq
  have HIn := Lib.hid hn
  have HIa := Lib.hid ha
  have HIb := Lib.hid hb
  clear hp hq hn ha hb
  have B0 : Below w.heap.size w (w.alloc (.cells #[.int .i64 3, .int .i64 p, .int .i64 q, .int .i64 pm, .int .i64 pk, .int .i64 pn, .int .i64 a, .int .i64 b] 25)) := (Below.refl _ _).alloc (Nat.le_refl _) _
  have P0 : Blk (w.alloc (.cells #[.int .i64 3, .int .i64 p, .int .i64 q, .int .i64 pm, .int .i64 pk, .int .i64 pn, .int .i64 a, .int .i64 b] 25)) w.heap.size 25 #[.int .i64 3, .int .i64 p, .int .i64 q, .int .i64 pm, .int .i64 pk, .int .i64 pn, .int .i64 a, .int .i64 b] := Blk.new _ _ _
  have HT := Lib.hid ht
  have HB0 := Lib.hid B0
  have HP0 := Lib.hid P0
  clear ht B0 P0
  go_enter Tryz.func25, Tryz.ntmps25
  go_wp2_with fail
  go_region_held3 (fun w' => w'.cell? ⟨w.heap.size, 1, none⟩ = some (.int .i64 p) ∧ w'.cell? ⟨w.heap.size, 2, none⟩ = some (.int .i64 q)) (first | exact ⟨c1_1, c1_2⟩ | exact ⟨c2_1, c2_2⟩ | exact ⟨c3_1, c3_2⟩ | go_keep)
    (first
    | (go_at_call 24; refine (digits_w p _ HIp.out (HT.out.below HB0.out.drew)).mono ?_; rintro e w1 ⟨rfl, B⟩; have P := (HP0.out.drew).below B HP0.out.lt; have c1_0 : w1.cell? ⟨w.heap.size, 0, none⟩ = some (.int .i64 3) := P.cell 0; have c1_1 : w1.cell? ⟨w.heap.size, 1, none⟩ = some (.int .i64 p) := P.cell 1; have c1_2 : w1.cell? ⟨w.heap.size, 2, none⟩ = some (.int .i64 q) := P.cell 2; have c1_3 : w1.cell? ⟨w.heap.size, 3, none⟩ = some (.int .i64 pm) := P.cell 3; have HP1 := Lib.hid P; have HB1 := Lib.hid ((HB0.out.drew).trans (B.mono (HB0.out.drew).size)); clear P B)
    | (go_at_call 24; refine (digits_w q _ HIq.out (HT.out.below HB1.out)).mono ?_; rintro e w2 ⟨rfl, B⟩; have P := (HP1.out).below B HP1.out.lt; have c2_0 : w2.cell? ⟨w.heap.size, 0, none⟩ = some (.int .i64 3) := P.cell 0; have c2_1 : w2.cell? ⟨w.heap.size, 1, none⟩ = some (.int .i64 p) := P.cell 1; have c2_2 : w2.cell? ⟨w.heap.size, 2, none⟩ = some (.int .i64 q) := P.cell 2; have c2_3 : w2.cell? ⟨w.heap.size, 3, none⟩ = some (.int .i64 pm) := P.cell 3; have HP2 := Lib.hid P; have HB2 := Lib.hid ((HB1.out).trans (B.mono (HB1.out).size)); clear P B)
    | (go_at_call 23; refine (words2 _ (dg p) (dg q) (by have := HL1.out; have := HL2.out; omega)).mono ?_; rintro e w3 ⟨rfl, B⟩; have P := (HP2.out).below B HP2.out.lt; have c3_0 : w3.cell? ⟨w.heap.size, 0, none⟩ = some (.int .i64 3) := P.cell 0; have c3_1 : w3.cell? ⟨w.heap.size, 1, none⟩ = some (.int .i64 p) := P.cell 1; have c3_2 : w3.cell? ⟨w.heap.size, 2, none⟩ = some (.int .i64 q) := P.cell 2; have c3_3 : w3.cell? ⟨w.heap.size, 3, none⟩ = some (.int .i64 pm) := P.cell 3; have HP3 := Lib.hid P; have HB3 := Lib.hid ((HB2.out).trans (B.mono (HB2.out).size)); clear P B))
  go_wp2_with (first
    | (go_at_call 43; refine (perm_w _ _).mono ?_; rintro e w9 ⟨rfl, rfl⟩)
    | (go_at_call 23; refine (words3 _ kProtect (joinW [dg p, dg q]) (permP pm) (by have := HL1.out; have := HL2.out; have := HL3.out; have := HL4.out; simp [joinW2]; omega)).mono ?_; rintro e w4 ⟨rfl, B⟩; have P := (HP3.out).below B HP3.out.lt; have c4_0 : w4.cell? ⟨w.heap.size, 0, none⟩ = some (.int .i64 3) := P.cell 0; have c4_1 : w4.cell? ⟨w.heap.size, 1, none⟩ = some (.int .i64 p) := P.cell 1; have c4_2 : w4.cell? ⟨w.heap.size, 2, none⟩ = some (.int .i64 q) := P.cell 2; have c4_3 : w4.cell? ⟨w.heap.size, 3, none⟩ = some (.int .i64 pm) := P.cell 3; have HP4 := Lib.hid P; have HB4 := Lib.hid ((HB3.out).trans (B.mono (HB3.out).size)); clear P B))
  go_ret
  exact ⟨rfl, HB4.out⟩

set_option maxRecDepth 100000 in
set_option maxHeartbeats 4000000 in
theorem scall_Bind (w : World) (p q pm pk pn a b : Int) (hp : In64 p) (hq : In64 q) (hn : In64 pn) (ha : In64 a) (hb : In64 b) (ht : Tab w) :
    Calls Tryz.prog 25 #[.agg #[.int .i64 4, .int .i64 p, .int .i64 q, .int .i64 pm, .int .i64 pk, .int .i64 pn, .int .i64 a, .int .i64 b]] w fun e w' => e = .returned (.string (bs (joinW [kBind, (joinW [dg p, dg q]), polP pk pn]))) ∧ Below w.heap.size w w' := by
  have HL1 := Lib.hid (dg_len hp)
  have HL2 := Lib.hid (dg_len hq)
  have HL3 := Lib.hid (permP_len pm)
  have HL4 := Lib.hid (polP_len pk hn)
  have HL5 := Lib.hid (dg_len ha)
  have HL6 := Lib.hid (dg_len hb)
  have HIp := Lib.hid hp
  have HIq := Lib.hid hq
  have HIn := Lib.hid hn
  have HIa := Lib.hid ha
  have HIb := Lib.hid hb
  clear hp hq hn ha hb
  have B0 : Below w.heap.size w (w.alloc (.cells #[.int .i64 4, .int .i64 p, .int .i64 q, .int .i64 pm, .int .i64 pk, .int .i64 pn, .int .i64 a, .int .i64 b] 25)) := (Below.refl _ _).alloc (Nat.le_refl _) _
  have P0 : Blk (w.alloc (.cells #[.int .i64 4, .int .i64 p, .int .i64 q, .int .i64 pm, .int .i64 pk, .int .i64 pn, .int .i64 a, .int .i64 b] 25)) w.heap.size 25 #[.int .i64 4, .int .i64 p, .int .i64 q, .int .i64 pm, .int .i64 pk, .int .i64 pn, .int .i64 a, .int .i64 b] := Blk.new _ _ _
  have HT := Lib.hid ht
  have HB0 := Lib.hid B0
  have HP0 := Lib.hid P0
  clear ht B0 P0
  go_enter Tryz.func25, Tryz.ntmps25
  go_wp2_with fail
  go_region_held3 (fun w' => w'.cell? ⟨w.heap.size, 1, none⟩ = some (.int .i64 p) ∧ w'.cell? ⟨w.heap.size, 2, none⟩ = some (.int .i64 q)) (first | exact ⟨c1_1, c1_2⟩ | exact ⟨c2_1, c2_2⟩ | exact ⟨c3_1, c3_2⟩ | go_keep)
    (first
    | (go_at_call 24; refine (digits_w p _ HIp.out (HT.out.below HB0.out.drew)).mono ?_; rintro e w1 ⟨rfl, B⟩; have P := (HP0.out.drew).below B HP0.out.lt; have c1_0 : w1.cell? ⟨w.heap.size, 0, none⟩ = some (.int .i64 4) := P.cell 0; have c1_1 : w1.cell? ⟨w.heap.size, 1, none⟩ = some (.int .i64 p) := P.cell 1; have c1_2 : w1.cell? ⟨w.heap.size, 2, none⟩ = some (.int .i64 q) := P.cell 2; have r1 := P.rowOf; have q1 := P.plain; have l1 := P.lt; have HP1 := Lib.hid P; have HB1 := Lib.hid ((HB0.out.drew).trans (B.mono (HB0.out.drew).size)); clear P B)
    | (go_at_call 24; refine (digits_w q _ HIq.out (HT.out.below HB1.out)).mono ?_; rintro e w2 ⟨rfl, B⟩; have P := (HP1.out).below B HP1.out.lt; have c2_0 : w2.cell? ⟨w.heap.size, 0, none⟩ = some (.int .i64 4) := P.cell 0; have c2_1 : w2.cell? ⟨w.heap.size, 1, none⟩ = some (.int .i64 p) := P.cell 1; have c2_2 : w2.cell? ⟨w.heap.size, 2, none⟩ = some (.int .i64 q) := P.cell 2; have r2 := P.rowOf; have q2 := P.plain; have l2 := P.lt; have HP2 := Lib.hid P; have HB2 := Lib.hid ((HB1.out).trans (B.mono (HB1.out).size)); clear P B)
    | (go_at_call 23; refine (words2 _ (dg p) (dg q) (by have := HL1.out; have := HL2.out; omega)).mono ?_; rintro e w3 ⟨rfl, B⟩; have P := (HP2.out).below B HP2.out.lt; have c3_0 : w3.cell? ⟨w.heap.size, 0, none⟩ = some (.int .i64 4) := P.cell 0; have c3_1 : w3.cell? ⟨w.heap.size, 1, none⟩ = some (.int .i64 p) := P.cell 1; have c3_2 : w3.cell? ⟨w.heap.size, 2, none⟩ = some (.int .i64 q) := P.cell 2; have r3 := P.rowOf; have q3 := P.plain; have l3 := P.lt; have HP3 := Lib.hid P; have HB3 := Lib.hid ((HB2.out).trans (B.mono (HB2.out).size)); clear P B))
  go_wp2_with (first
    | (go_at_call 44; refine (policy_w pk pn _ HIn.out (HT.out.below HB3.out)).mono ?_; rintro e w4 ⟨rfl, B⟩; have P := (HP3.out).below B HP3.out.lt; have c4_0 : w4.cell? ⟨w.heap.size, 0, none⟩ = some (.int .i64 4) := P.cell 0; have c4_1 : w4.cell? ⟨w.heap.size, 1, none⟩ = some (.int .i64 p) := P.cell 1; have c4_2 : w4.cell? ⟨w.heap.size, 2, none⟩ = some (.int .i64 q) := P.cell 2; have r4 := P.rowOf; have q4 := P.plain; have l4 := P.lt; have HP4 := Lib.hid P; have HB4 := Lib.hid ((HB3.out).trans (B.mono (HB3.out).size)); clear P B)
    | (go_at_call 23; refine (words3 _ kBind (joinW [dg p, dg q]) (polP pk pn) (by have := HL1.out; have := HL2.out; have := HL3.out; have := HL4.out; simp [joinW2]; omega)).mono ?_; rintro e w5 ⟨rfl, B⟩; have P := (HP4.out).below B HP4.out.lt; have c5_0 : w5.cell? ⟨w.heap.size, 0, none⟩ = some (.int .i64 4) := P.cell 0; have c5_1 : w5.cell? ⟨w.heap.size, 1, none⟩ = some (.int .i64 p) := P.cell 1; have c5_2 : w5.cell? ⟨w.heap.size, 2, none⟩ = some (.int .i64 q) := P.cell 2; have r5 := P.rowOf; have q5 := P.plain; have l5 := P.lt; have HP5 := Lib.hid P; have HB5 := Lib.hid ((HB4.out).trans (B.mono (HB4.out).size)); clear P B))
  go_ret
  exact ⟨rfl, HB5.out⟩

set_option maxRecDepth 100000 in
set_option maxHeartbeats 4000000 in
theorem scall_Load (w : World) (p q pm pk pn a b : Int) (hp : In64 p) (hq : In64 q) (hn : In64 pn) (ha : In64 a) (hb : In64 b) (ht : Tab w) :
    Calls Tryz.prog 25 #[.agg #[.int .i64 5, .int .i64 p, .int .i64 q, .int .i64 pm, .int .i64 pk, .int .i64 pn, .int .i64 a, .int .i64 b]] w fun e w' => e = .returned (.string (bs (joinW [kLoad, dg a]))) ∧ Below w.heap.size w w' := by
  have HL1 := Lib.hid (dg_len hp)
  have HL2 := Lib.hid (dg_len hq)
  have HL3 := Lib.hid (permP_len pm)
  have HL4 := Lib.hid (polP_len pk hn)
  have HL5 := Lib.hid (dg_len ha)
  have HL6 := Lib.hid (dg_len hb)
  have HIp := Lib.hid hp
  have HIq := Lib.hid hq
  have HIn := Lib.hid hn
  have HIa := Lib.hid ha
  have HIb := Lib.hid hb
  clear hp hq hn ha hb
  have B0 : Below w.heap.size w (w.alloc (.cells #[.int .i64 5, .int .i64 p, .int .i64 q, .int .i64 pm, .int .i64 pk, .int .i64 pn, .int .i64 a, .int .i64 b] 25)) := (Below.refl _ _).alloc (Nat.le_refl _) _
  have P0 : Blk (w.alloc (.cells #[.int .i64 5, .int .i64 p, .int .i64 q, .int .i64 pm, .int .i64 pk, .int .i64 pn, .int .i64 a, .int .i64 b] 25)) w.heap.size 25 #[.int .i64 5, .int .i64 p, .int .i64 q, .int .i64 pm, .int .i64 pk, .int .i64 pn, .int .i64 a, .int .i64 b] := Blk.new _ _ _
  have HT := Lib.hid ht
  have HB0 := Lib.hid B0
  have HP0 := Lib.hid P0
  clear ht B0 P0
  go_enter Tryz.func25, Tryz.ntmps25
  go_wp2_with fail
  go_region_held3 (fun w' => w'.cell? ⟨w.heap.size, 1, none⟩ = some (.int .i64 p) ∧ w'.cell? ⟨w.heap.size, 2, none⟩ = some (.int .i64 q)) (first | exact ⟨c1_1, c1_2⟩ | exact ⟨c2_1, c2_2⟩ | exact ⟨c3_1, c3_2⟩ | go_keep)
    (first
    | (go_at_call 24; refine (digits_w p _ HIp.out (HT.out.below HB0.out.drew)).mono ?_; rintro e w1 ⟨rfl, B⟩; have P := (HP0.out.drew).below B HP0.out.lt; have c1_0 : w1.cell? ⟨w.heap.size, 0, none⟩ = some (.int .i64 5) := P.cell 0; have c1_1 : w1.cell? ⟨w.heap.size, 1, none⟩ = some (.int .i64 p) := P.cell 1; have c1_2 : w1.cell? ⟨w.heap.size, 2, none⟩ = some (.int .i64 q) := P.cell 2; have c1_6 : w1.cell? ⟨w.heap.size, 6, none⟩ = some (.int .i64 a) := P.cell 6; have HP1 := Lib.hid P; have HB1 := Lib.hid ((HB0.out.drew).trans (B.mono (HB0.out.drew).size)); clear P B)
    | (go_at_call 24; refine (digits_w q _ HIq.out (HT.out.below HB1.out)).mono ?_; rintro e w2 ⟨rfl, B⟩; have P := (HP1.out).below B HP1.out.lt; have c2_0 : w2.cell? ⟨w.heap.size, 0, none⟩ = some (.int .i64 5) := P.cell 0; have c2_1 : w2.cell? ⟨w.heap.size, 1, none⟩ = some (.int .i64 p) := P.cell 1; have c2_2 : w2.cell? ⟨w.heap.size, 2, none⟩ = some (.int .i64 q) := P.cell 2; have c2_6 : w2.cell? ⟨w.heap.size, 6, none⟩ = some (.int .i64 a) := P.cell 6; have HP2 := Lib.hid P; have HB2 := Lib.hid ((HB1.out).trans (B.mono (HB1.out).size)); clear P B)
    | (go_at_call 23; refine (words2 _ (dg p) (dg q) (by have := HL1.out; have := HL2.out; omega)).mono ?_; rintro e w3 ⟨rfl, B⟩; have P := (HP2.out).below B HP2.out.lt; have c3_0 : w3.cell? ⟨w.heap.size, 0, none⟩ = some (.int .i64 5) := P.cell 0; have c3_1 : w3.cell? ⟨w.heap.size, 1, none⟩ = some (.int .i64 p) := P.cell 1; have c3_2 : w3.cell? ⟨w.heap.size, 2, none⟩ = some (.int .i64 q) := P.cell 2; have c3_6 : w3.cell? ⟨w.heap.size, 6, none⟩ = some (.int .i64 a) := P.cell 6; have HP3 := Lib.hid P; have HB3 := Lib.hid ((HB2.out).trans (B.mono (HB2.out).size)); clear P B))
  go_wp2_with (first
    | (go_at_call 24; refine (digits_w a _ HIa.out (HT.out.below HB3.out)).mono ?_; rintro e w4 ⟨rfl, B⟩; have P := (HP3.out).below B HP3.out.lt; have c4_0 : w4.cell? ⟨w.heap.size, 0, none⟩ = some (.int .i64 5) := P.cell 0; have c4_1 : w4.cell? ⟨w.heap.size, 1, none⟩ = some (.int .i64 p) := P.cell 1; have c4_2 : w4.cell? ⟨w.heap.size, 2, none⟩ = some (.int .i64 q) := P.cell 2; have c4_6 : w4.cell? ⟨w.heap.size, 6, none⟩ = some (.int .i64 a) := P.cell 6; have HP4 := Lib.hid P; have HB4 := Lib.hid ((HB3.out).trans (B.mono (HB3.out).size)); clear P B)
    | (go_at_call 23; refine (words2 _ kLoad (dg a) (by have := HL5.out; simp; omega)).mono ?_; rintro e w5 ⟨rfl, B⟩; have P := (HP4.out).below B HP4.out.lt; have c5_0 : w5.cell? ⟨w.heap.size, 0, none⟩ = some (.int .i64 5) := P.cell 0; have c5_1 : w5.cell? ⟨w.heap.size, 1, none⟩ = some (.int .i64 p) := P.cell 1; have c5_2 : w5.cell? ⟨w.heap.size, 2, none⟩ = some (.int .i64 q) := P.cell 2; have c5_6 : w5.cell? ⟨w.heap.size, 6, none⟩ = some (.int .i64 a) := P.cell 6; have HP5 := Lib.hid P; have HB5 := Lib.hid ((HB4.out).trans (B.mono (HB4.out).size)); clear P B))
  go_ret
  exact ⟨rfl, HB5.out⟩

set_option maxRecDepth 100000 in
set_option maxHeartbeats 4000000 in
theorem scall_Store (w : World) (p q pm pk pn a b : Int) (hp : In64 p) (hq : In64 q) (hn : In64 pn) (ha : In64 a) (hb : In64 b) (ht : Tab w) :
    Calls Tryz.prog 25 #[.agg #[.int .i64 6, .int .i64 p, .int .i64 q, .int .i64 pm, .int .i64 pk, .int .i64 pn, .int .i64 a, .int .i64 b]] w fun e w' => e = .returned (.string (bs (joinW [kStore, dg a, dg b]))) ∧ Below w.heap.size w w' := by
  have HL1 := Lib.hid (dg_len hp)
  have HL2 := Lib.hid (dg_len hq)
  have HL3 := Lib.hid (permP_len pm)
  have HL4 := Lib.hid (polP_len pk hn)
  have HL5 := Lib.hid (dg_len ha)
  have HL6 := Lib.hid (dg_len hb)
  have HIp := Lib.hid hp
  have HIq := Lib.hid hq
  have HIn := Lib.hid hn
  have HIa := Lib.hid ha
  have HIb := Lib.hid hb
  clear hp hq hn ha hb
  have B0 : Below w.heap.size w (w.alloc (.cells #[.int .i64 6, .int .i64 p, .int .i64 q, .int .i64 pm, .int .i64 pk, .int .i64 pn, .int .i64 a, .int .i64 b] 25)) := (Below.refl _ _).alloc (Nat.le_refl _) _
  have P0 : Blk (w.alloc (.cells #[.int .i64 6, .int .i64 p, .int .i64 q, .int .i64 pm, .int .i64 pk, .int .i64 pn, .int .i64 a, .int .i64 b] 25)) w.heap.size 25 #[.int .i64 6, .int .i64 p, .int .i64 q, .int .i64 pm, .int .i64 pk, .int .i64 pn, .int .i64 a, .int .i64 b] := Blk.new _ _ _
  have HT := Lib.hid ht
  have HB0 := Lib.hid B0
  have HP0 := Lib.hid P0
  clear ht B0 P0
  go_enter Tryz.func25, Tryz.ntmps25
  go_wp2_with fail
  go_region_held3 (fun w' => w'.cell? ⟨w.heap.size, 1, none⟩ = some (.int .i64 p) ∧ w'.cell? ⟨w.heap.size, 2, none⟩ = some (.int .i64 q)) (first | exact ⟨c1_1, c1_2⟩ | exact ⟨c2_1, c2_2⟩ | exact ⟨c3_1, c3_2⟩ | go_keep)
    (first
    | (go_at_call 24; refine (digits_w p _ HIp.out (HT.out.below HB0.out.drew)).mono ?_; rintro e w1 ⟨rfl, B⟩; have P := (HP0.out.drew).below B HP0.out.lt; have c1_0 : w1.cell? ⟨w.heap.size, 0, none⟩ = some (.int .i64 6) := P.cell 0; have c1_1 : w1.cell? ⟨w.heap.size, 1, none⟩ = some (.int .i64 p) := P.cell 1; have c1_2 : w1.cell? ⟨w.heap.size, 2, none⟩ = some (.int .i64 q) := P.cell 2; have c1_6 : w1.cell? ⟨w.heap.size, 6, none⟩ = some (.int .i64 a) := P.cell 6; have c1_7 : w1.cell? ⟨w.heap.size, 7, none⟩ = some (.int .i64 b) := P.cell 7; have HP1 := Lib.hid P; have HB1 := Lib.hid ((HB0.out.drew).trans (B.mono (HB0.out.drew).size)); clear P B)
    | (go_at_call 24; refine (digits_w q _ HIq.out (HT.out.below HB1.out)).mono ?_; rintro e w2 ⟨rfl, B⟩; have P := (HP1.out).below B HP1.out.lt; have c2_0 : w2.cell? ⟨w.heap.size, 0, none⟩ = some (.int .i64 6) := P.cell 0; have c2_1 : w2.cell? ⟨w.heap.size, 1, none⟩ = some (.int .i64 p) := P.cell 1; have c2_2 : w2.cell? ⟨w.heap.size, 2, none⟩ = some (.int .i64 q) := P.cell 2; have c2_6 : w2.cell? ⟨w.heap.size, 6, none⟩ = some (.int .i64 a) := P.cell 6; have c2_7 : w2.cell? ⟨w.heap.size, 7, none⟩ = some (.int .i64 b) := P.cell 7; have HP2 := Lib.hid P; have HB2 := Lib.hid ((HB1.out).trans (B.mono (HB1.out).size)); clear P B)
    | (go_at_call 23; refine (words2 _ (dg p) (dg q) (by have := HL1.out; have := HL2.out; omega)).mono ?_; rintro e w3 ⟨rfl, B⟩; have P := (HP2.out).below B HP2.out.lt; have c3_0 : w3.cell? ⟨w.heap.size, 0, none⟩ = some (.int .i64 6) := P.cell 0; have c3_1 : w3.cell? ⟨w.heap.size, 1, none⟩ = some (.int .i64 p) := P.cell 1; have c3_2 : w3.cell? ⟨w.heap.size, 2, none⟩ = some (.int .i64 q) := P.cell 2; have c3_6 : w3.cell? ⟨w.heap.size, 6, none⟩ = some (.int .i64 a) := P.cell 6; have c3_7 : w3.cell? ⟨w.heap.size, 7, none⟩ = some (.int .i64 b) := P.cell 7; have HP3 := Lib.hid P; have HB3 := Lib.hid ((HB2.out).trans (B.mono (HB2.out).size)); clear P B))
  go_wp2_with fail
  go_region_held3 (fun w' => w'.cell? ⟨w.heap.size, 6, none⟩ = some (.int .i64 a) ∧ w'.cell? ⟨w.heap.size, 7, none⟩ = some (.int .i64 b)) (first | exact ⟨c3_6, c3_7⟩ | exact ⟨c4_6, c4_7⟩ | exact ⟨c5_6, c5_7⟩ | exact ⟨c6_6, c6_7⟩ | go_keep)
    (first
    | (go_at_call 24; refine (digits_w a _ HIa.out (HT.out.below HB3.out.drew)).mono ?_; rintro e w4 ⟨rfl, B⟩; have P := (HP3.out.drew).below B HP3.out.lt; have c4_0 : w4.cell? ⟨w.heap.size, 0, none⟩ = some (.int .i64 6) := P.cell 0; have c4_1 : w4.cell? ⟨w.heap.size, 1, none⟩ = some (.int .i64 p) := P.cell 1; have c4_2 : w4.cell? ⟨w.heap.size, 2, none⟩ = some (.int .i64 q) := P.cell 2; have c4_6 : w4.cell? ⟨w.heap.size, 6, none⟩ = some (.int .i64 a) := P.cell 6; have c4_7 : w4.cell? ⟨w.heap.size, 7, none⟩ = some (.int .i64 b) := P.cell 7; have HP4 := Lib.hid P; have HB4 := Lib.hid ((HB3.out.drew).trans (B.mono (HB3.out.drew).size)); clear P B)
    | (go_at_call 24; refine (digits_w b _ HIb.out (HT.out.below HB4.out)).mono ?_; rintro e w5 ⟨rfl, B⟩; have P := (HP4.out).below B HP4.out.lt; have c5_0 : w5.cell? ⟨w.heap.size, 0, none⟩ = some (.int .i64 6) := P.cell 0; have c5_1 : w5.cell? ⟨w.heap.size, 1, none⟩ = some (.int .i64 p) := P.cell 1; have c5_2 : w5.cell? ⟨w.heap.size, 2, none⟩ = some (.int .i64 q) := P.cell 2; have c5_6 : w5.cell? ⟨w.heap.size, 6, none⟩ = some (.int .i64 a) := P.cell 6; have c5_7 : w5.cell? ⟨w.heap.size, 7, none⟩ = some (.int .i64 b) := P.cell 7; have HP5 := Lib.hid P; have HB5 := Lib.hid ((HB4.out).trans (B.mono (HB4.out).size)); clear P B)
    | (go_at_call 23; refine (words3 _ kStore (dg a) (dg b) (by have := HL5.out; have := HL6.out; simp; omega)).mono ?_; rintro e w6 ⟨rfl, B⟩; have P := (HP5.out).below B HP5.out.lt; have c6_0 : w6.cell? ⟨w.heap.size, 0, none⟩ = some (.int .i64 6) := P.cell 0; have c6_1 : w6.cell? ⟨w.heap.size, 1, none⟩ = some (.int .i64 p) := P.cell 1; have c6_2 : w6.cell? ⟨w.heap.size, 2, none⟩ = some (.int .i64 q) := P.cell 2; have c6_6 : w6.cell? ⟨w.heap.size, 6, none⟩ = some (.int .i64 a) := P.cell 6; have c6_7 : w6.cell? ⟨w.heap.size, 7, none⟩ = some (.int .i64 b) := P.cell 7; have HP6 := Lib.hid P; have HB6 := Lib.hid ((HB5.out).trans (B.mono (HB5.out).size)); clear P B))
  go_wp2_with fail
  go_ret
  exact ⟨rfl, HB6.out⟩

set_option maxRecDepth 100000 in
set_option maxHeartbeats 4000000 in
theorem scall_none (w : World) (k p q pm pk pn a b : Int) (h1 : k ≠ 1) (h2 : k ≠ 2) (h3 : k ≠ 3) (h4 : k ≠ 4) (h5 : k ≠ 5) (h6 : k ≠ 6) (hp : In64 p) (hq : In64 q) (hn : In64 pn) (ha : In64 a) (hb : In64 b) (ht : Tab w) :
    Calls Tryz.prog 25 #[.agg #[.int .i64 k, .int .i64 p, .int .i64 q, .int .i64 pm, .int .i64 pk, .int .i64 pn, .int .i64 a, .int .i64 b]] w fun e w' => e = .returned (.string (bs ([]))) ∧ Below w.heap.size w w' := by
  have e : bs [] = { data := #[] } := rfl
  rw [e]
  have g1 : (k == 1) = false := by simpa using h1
  have g2 : (k == 2) = false := by simpa using h2
  have g3 : (k == 3) = false := by simpa using h3
  have g4 : (k == 4) = false := by simpa using h4
  have g5 : (k == 5) = false := by simpa using h5
  have g6 : (k == 6) = false := by simpa using h6
  clear e
  have HL1 := Lib.hid (dg_len hp)
  have HL2 := Lib.hid (dg_len hq)
  have HL3 := Lib.hid (permP_len pm)
  have HL4 := Lib.hid (polP_len pk hn)
  have HL5 := Lib.hid (dg_len ha)
  have HL6 := Lib.hid (dg_len hb)
  have HIp := Lib.hid hp
  have HIq := Lib.hid hq
  have HIn := Lib.hid hn
  have HIa := Lib.hid ha
  have HIb := Lib.hid hb
  clear hp hq hn ha hb
  have B0 : Below w.heap.size w (w.alloc (.cells #[.int .i64 k, .int .i64 p, .int .i64 q, .int .i64 pm, .int .i64 pk, .int .i64 pn, .int .i64 a, .int .i64 b] 25)) := (Below.refl _ _).alloc (Nat.le_refl _) _
  have P0 : Blk (w.alloc (.cells #[.int .i64 k, .int .i64 p, .int .i64 q, .int .i64 pm, .int .i64 pk, .int .i64 pn, .int .i64 a, .int .i64 b] 25)) w.heap.size 25 #[.int .i64 k, .int .i64 p, .int .i64 q, .int .i64 pm, .int .i64 pk, .int .i64 pn, .int .i64 a, .int .i64 b] := Blk.new _ _ _
  have HT := Lib.hid ht
  have HB0 := Lib.hid B0
  have HP0 := Lib.hid P0
  clear ht B0 P0
  go_enter Tryz.func25, Tryz.ntmps25
  go_wp2_with fail
  go_region_held3 (fun w' => w'.cell? ⟨w.heap.size, 1, none⟩ = some (.int .i64 p) ∧ w'.cell? ⟨w.heap.size, 2, none⟩ = some (.int .i64 q)) (first | exact ⟨c1_1, c1_2⟩ | exact ⟨c2_1, c2_2⟩ | exact ⟨c3_1, c3_2⟩ | go_keep)
    (first
    | (go_at_call 24; refine (digits_w p _ HIp.out (HT.out.below HB0.out.drew)).mono ?_; rintro e w1 ⟨rfl, B⟩; have P := (HP0.out.drew).below B HP0.out.lt; have c1_0 : w1.cell? ⟨w.heap.size, 0, none⟩ = some (.int .i64 k) := P.cell 0; have c1_1 : w1.cell? ⟨w.heap.size, 1, none⟩ = some (.int .i64 p) := P.cell 1; have c1_2 : w1.cell? ⟨w.heap.size, 2, none⟩ = some (.int .i64 q) := P.cell 2; have HP1 := Lib.hid P; have HB1 := Lib.hid ((HB0.out.drew).trans (B.mono (HB0.out.drew).size)); clear P B)
    | (go_at_call 24; refine (digits_w q _ HIq.out (HT.out.below HB1.out)).mono ?_; rintro e w2 ⟨rfl, B⟩; have P := (HP1.out).below B HP1.out.lt; have c2_0 : w2.cell? ⟨w.heap.size, 0, none⟩ = some (.int .i64 k) := P.cell 0; have c2_1 : w2.cell? ⟨w.heap.size, 1, none⟩ = some (.int .i64 p) := P.cell 1; have c2_2 : w2.cell? ⟨w.heap.size, 2, none⟩ = some (.int .i64 q) := P.cell 2; have HP2 := Lib.hid P; have HB2 := Lib.hid ((HB1.out).trans (B.mono (HB1.out).size)); clear P B)
    | (go_at_call 23; refine (words2 _ (dg p) (dg q) (by have := HL1.out; have := HL2.out; omega)).mono ?_; rintro e w3 ⟨rfl, B⟩; have P := (HP2.out).below B HP2.out.lt; have c3_0 : w3.cell? ⟨w.heap.size, 0, none⟩ = some (.int .i64 k) := P.cell 0; have c3_1 : w3.cell? ⟨w.heap.size, 1, none⟩ = some (.int .i64 p) := P.cell 1; have c3_2 : w3.cell? ⟨w.heap.size, 2, none⟩ = some (.int .i64 q) := P.cell 2; have HP3 := Lib.hid P; have HB3 := Lib.hid ((HB2.out).trans (B.mono (HB2.out).size)); clear P B))
  go_wp2_with (first
    | fail)
  go_ret
  exact ⟨rfl, HB3.out⟩

theorem call_w (w : World) (c : Cl) (hp : In64 c.page) (hq : In64 c.pages) (hn : In64 c.pn) (ha : In64 c.addr) (hb : In64 c.byte) (ht : Tab w) :
    Calls Tryz.prog 25 #[.agg c.arr] w fun e w' => e = .returned (.string (bs (callP c))) ∧ Below w.heap.size w w' := by
  obtain ⟨k, p, q, pm, pk, pn, a, b⟩ := c
  have e : Cl.arr ⟨k, p, q, pm, pk, pn, a, b⟩ = #[.int .i64 k, .int .i64 p, .int .i64 q, .int .i64 pm, .int .i64 pk, .int .i64 pn, .int .i64 a, .int .i64 b] := rfl
  rw [e]
  unfold callP pagesP
  simp only at hp hq hn ha hb ⊢
  by_cases h1 : k = 1
  · subst h1; rw [if_pos rfl]; exact scall_Map w p q pm pk pn a b hp hq hn ha hb ht
  · rw [if_neg h1]
    by_cases h2 : k = 2
    · subst h2; rw [if_pos rfl]; exact scall_Unmap w p q pm pk pn a b hp hq hn ha hb ht
    · rw [if_neg h2]
      by_cases h3 : k = 3
      · subst h3; rw [if_pos rfl]; exact scall_Protect w p q pm pk pn a b hp hq hn ha hb ht
      · rw [if_neg h3]
        by_cases h4 : k = 4
        · subst h4; rw [if_pos rfl]; exact scall_Bind w p q pm pk pn a b hp hq hn ha hb ht
        · rw [if_neg h4]
          by_cases h5 : k = 5
          · subst h5; rw [if_pos rfl]; exact scall_Load w p q pm pk pn a b hp hq hn ha hb ht
          · rw [if_neg h5]
            by_cases h6 : k = 6
            · subst h6; rw [if_pos rfl]; exact scall_Store w p q pm pk pn a b hp hq hn ha hb ht
            · rw [if_neg h6]; exact scall_none w k p q pm pk pn a b h1 h2 h3 h4 h5 h6 hp hq hn ha hb ht
end Go.Proofs.YtccoafacbbkooaaGreatDoor
