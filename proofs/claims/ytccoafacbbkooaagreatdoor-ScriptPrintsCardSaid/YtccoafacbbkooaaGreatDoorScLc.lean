/- Script: the reference's policy and call texts. Printed by mkScY.py. -/
import Derived.Test.YtccoafacbbkooaaGreatDoorScLb
namespace Go.Proofs.YtccoafacbbkooaaGreatDoor
open Go.RowKit Go.Maps
theorem lit_size (a : Array UInt8) : ({ data := a } : ByteArray).size = a.size := rfl

set_option maxRecDepth 100000 in
set_option maxHeartbeats 4000000 in
theorem polT_1 (w : World) (n : Int) (hn : may n = true) :
    Calls Tryz.prog 46 #[.agg #[.int .i64 1, .int .i64 n]] w fun e w' => e = .returned (.string (bs (polT 1 n))) ∧ Below w.heap.size w w' := by
  have HLn := Lib.hid (dg_may hn)
  have HMn := Lib.hid hn
  clear hn
  have B0 : Below w.heap.size w (w.alloc (.cells #[.int .i64 1, .int .i64 n] 23)) := (Below.refl _ _).alloc (Nat.le_refl _) _
  have P0 : Blk (w.alloc (.cells #[.int .i64 1, .int .i64 n] 23)) w.heap.size 23 #[.int .i64 1, .int .i64 n] := Blk.new _ _ _
  have HB0 := Lib.hid B0
  have HP0 := Lib.hid P0
  clear B0 P0
  have sh0 : short (({ data := #[98, 105, 110, 100, 32] } : ByteArray) ++ (bs (dg n))) = true := short_of (by have := HLn.out; simp [ByteArray.size_append, bs_size, lit_size]; omega)
  go_enter Tryz.func46, Tryz.ntmps46
  go_wp2_with (first
    | (go_at_call 27; (with_reducible refine (digits_ri n _ HMn.out).mono ?_); rintro e w1 ⟨rfl, B⟩; have P := (HP0.out).below B HP0.out.lt; have c1_0 : w1.cell? ⟨w.heap.size, 0, none⟩ = some (.int .i64 1) := P.cell 0; have c1_1 : w1.cell? ⟨w.heap.size, 1, none⟩ = some (.int .i64 n) := P.cell 1; have HP1 := Lib.hid P; have HB1 := Lib.hid ((HB0.out).trans (B.mono (HB0.out).size)); clear P B))
  go_ret
  exact ⟨congrArg (fun s => Ending.returned (Value.string s)) (bs_eq (by simp [ByteArray.data_append, bs_data, polT])), HB1.out⟩

set_option maxRecDepth 100000 in
set_option maxHeartbeats 4000000 in
theorem polT_2 (w : World) (n : Int) (hn : may n = true) :
    Calls Tryz.prog 46 #[.agg #[.int .i64 2, .int .i64 n]] w fun e w' => e = .returned (.string (bs (polT 2 n))) ∧ Below w.heap.size w w' := by
  have HLn := Lib.hid (dg_may hn)
  have HMn := Lib.hid hn
  clear hn
  have B0 : Below w.heap.size w (w.alloc (.cells #[.int .i64 2, .int .i64 n] 23)) := (Below.refl _ _).alloc (Nat.le_refl _) _
  have P0 : Blk (w.alloc (.cells #[.int .i64 2, .int .i64 n] 23)) w.heap.size 23 #[.int .i64 2, .int .i64 n] := Blk.new _ _ _
  have HB0 := Lib.hid B0
  have HP0 := Lib.hid P0
  clear B0 P0
  have sh0 : short (({ data := #[112, 114, 101, 102, 101, 114, 32] } : ByteArray) ++ (bs (dg n))) = true := short_of (by have := HLn.out; simp [ByteArray.size_append, bs_size, lit_size]; omega)
  go_enter Tryz.func46, Tryz.ntmps46
  go_wp2_with (first
    | (go_at_call 27; (with_reducible refine (digits_ri n _ HMn.out).mono ?_); rintro e w1 ⟨rfl, B⟩; have P := (HP0.out).below B HP0.out.lt; have c1_0 : w1.cell? ⟨w.heap.size, 0, none⟩ = some (.int .i64 2) := P.cell 0; have c1_1 : w1.cell? ⟨w.heap.size, 1, none⟩ = some (.int .i64 n) := P.cell 1; have HP1 := Lib.hid P; have HB1 := Lib.hid ((HB0.out).trans (B.mono (HB0.out).size)); clear P B))
  go_ret
  exact ⟨congrArg (fun s => Ending.returned (Value.string s)) (bs_eq (by simp [ByteArray.data_append, bs_data, polT])), HB1.out⟩

set_option maxRecDepth 100000 in
set_option maxHeartbeats 4000000 in
theorem polT_3 (w : World) (n : Int) (hn : may n = true) :
    Calls Tryz.prog 46 #[.agg #[.int .i64 3, .int .i64 n]] w fun e w' => e = .returned (.string (bs (polT 3 n))) ∧ Below w.heap.size w w' := by
  have HLn := Lib.hid (dg_may hn)
  have HMn := Lib.hid hn
  clear hn
  have B0 : Below w.heap.size w (w.alloc (.cells #[.int .i64 3, .int .i64 n] 23)) := (Below.refl _ _).alloc (Nat.le_refl _) _
  have P0 : Blk (w.alloc (.cells #[.int .i64 3, .int .i64 n] 23)) w.heap.size 23 #[.int .i64 3, .int .i64 n] := Blk.new _ _ _
  have HB0 := Lib.hid B0
  have HP0 := Lib.hid P0
  clear B0 P0
  have sh0 : short (({ data := #[109, 105, 120, 32] } : ByteArray) ++ (bs (dg n))) = true := short_of (by have := HLn.out; simp [ByteArray.size_append, bs_size, lit_size]; omega)
  go_enter Tryz.func46, Tryz.ntmps46
  go_wp2_with (first
    | (go_at_call 27; (with_reducible refine (digits_ri n _ HMn.out).mono ?_); rintro e w1 ⟨rfl, B⟩; have P := (HP0.out).below B HP0.out.lt; have c1_0 : w1.cell? ⟨w.heap.size, 0, none⟩ = some (.int .i64 3) := P.cell 0; have c1_1 : w1.cell? ⟨w.heap.size, 1, none⟩ = some (.int .i64 n) := P.cell 1; have HP1 := Lib.hid P; have HB1 := Lib.hid ((HB0.out).trans (B.mono (HB0.out).size)); clear P B))
  go_ret
  exact ⟨congrArg (fun s => Ending.returned (Value.string s)) (bs_eq (by simp [ByteArray.data_append, bs_data, polT])), HB1.out⟩

set_option maxRecDepth 100000 in
set_option maxHeartbeats 4000000 in
theorem polT_0 (w : World) (k n : Int) (h1 : k ≠ 1) (h2 : k ≠ 2) (h3 : k ≠ 3) :
    Calls Tryz.prog 46 #[.agg #[.int .i64 k, .int .i64 n]] w fun e w' => e = .returned (.string (bs (polT k n))) ∧ Below w.heap.size w w' := by
  have e : bs (polT k n) = { data := #[108, 111, 99, 97, 108] } := by unfold polT; rw [if_neg h1, if_neg h2, if_neg h3]; rfl
  rw [e]
  have g1 : (k == 1) = false := by simpa using h1
  have g2 : (k == 2) = false := by simpa using h2
  have g3 : (k == 3) = false := by simpa using h3
  clear e
  have B0 : Below w.heap.size w (w.alloc (.cells #[.int .i64 k, .int .i64 n] 23)) := (Below.refl _ _).alloc (Nat.le_refl _) _
  have P0 : Blk (w.alloc (.cells #[.int .i64 k, .int .i64 n] 23)) w.heap.size 23 #[.int .i64 k, .int .i64 n] := Blk.new _ _ _
  have HB0 := Lib.hid B0
  have HP0 := Lib.hid P0
  clear B0 P0
  go_enter Tryz.func46, Tryz.ntmps46
  go_wp2_with fail
  go_ret
  exact ⟨rfl, HB0.out⟩

theorem polT_r (w : World) (k n : Int) (hn : may n = true) : Calls Tryz.prog 46 #[.agg #[.int .i64 k, .int .i64 n]] w fun e w' => e = .returned (.string (bs (polT k n))) ∧ Below w.heap.size w w' := by
  by_cases h1 : k = 1
  · subst h1; exact polT_1 w n hn
  · by_cases h2 : k = 2
    · subst h2; exact polT_2 w n hn
    · by_cases h3 : k = 3
      · subst h3; exact polT_3 w n hn
      · exact polT_0 w k n h1 h2 h3
theorem polT_len (k : Int) {n : Int} (hn : may n = true) : (polT k n).length ≤ 30 := by
  have := dg_may hn
  unfold polT
  repeat' split
  all_goals simp
  all_goals omega
theorem permT_len (p : Int) : (permT p).length ≤ 2 := by
  unfold permT
  repeat' split
  all_goals simp

set_option maxRecDepth 100000 in
set_option maxHeartbeats 4000000 in
theorem rcall_Map (w : World) (p q pm pk pn a b : Int) (hp : may p = true) (hq : may q = true) (hpn : may pn = true) (ha : may a = true) (hb : may b = true) :
    Calls Tryz.prog 28 #[.agg #[.int .i64 1, .int .i64 p, .int .i64 q, .int .i64 pm, .int .i64 pk, .int .i64 pn, .int .i64 a, .int .i64 b]] w fun e w' => e = .returned (.string (bs (callT ⟨1, p, q, pm, pk, pn, a, b⟩))) ∧ Below w.heap.size w w' := by
  have HLp := Lib.hid (dg_may hp)
  have HMp := Lib.hid hp
  have HLq := Lib.hid (dg_may hq)
  have HMq := Lib.hid hq
  have HLpn := Lib.hid (dg_may hpn)
  have HMpn := Lib.hid hpn
  have HLa := Lib.hid (dg_may ha)
  have HMa := Lib.hid ha
  have HLb := Lib.hid (dg_may hb)
  have HMb := Lib.hid hb
  clear hp hq hpn ha hb
  have HLpm := Lib.hid (permT_len pm)
  have HLpk := Lib.hid (polT_len pk HMpn.out)
  have B0 : Below w.heap.size w (w.alloc (.cells #[.int .i64 1, .int .i64 p, .int .i64 q, .int .i64 pm, .int .i64 pk, .int .i64 pn, .int .i64 a, .int .i64 b] 25)) := (Below.refl _ _).alloc (Nat.le_refl _) _
  have P0 : Blk (w.alloc (.cells #[.int .i64 1, .int .i64 p, .int .i64 q, .int .i64 pm, .int .i64 pk, .int .i64 pn, .int .i64 a, .int .i64 b] 25)) w.heap.size 25 #[.int .i64 1, .int .i64 p, .int .i64 q, .int .i64 pm, .int .i64 pk, .int .i64 pn, .int .i64 a, .int .i64 b] := Blk.new _ _ _
  have HB0 := Lib.hid B0
  have HP0 := Lib.hid P0
  clear B0 P0
  have sh0 : short (({ data := #[32] } : ByteArray) ++ (bs (dg p))) = true := short_of (by have := HLp.out; have := HLq.out; have := HLa.out; have := HLb.out; have := HLpm.out; have := HLpk.out; simp [ByteArray.size_append, bs_size, lit_size]; omega)
  have sh1 : short ((({ data := #[32] } : ByteArray) ++ (bs (dg p))) ++ ({ data := #[32] } : ByteArray)) = true := short_of (by have := HLp.out; have := HLq.out; have := HLa.out; have := HLb.out; have := HLpm.out; have := HLpk.out; simp [ByteArray.size_append, bs_size, lit_size]; omega)
  have sh2 : short (((({ data := #[32] } : ByteArray) ++ (bs (dg p))) ++ ({ data := #[32] } : ByteArray)) ++ (bs (dg q))) = true := short_of (by have := HLp.out; have := HLq.out; have := HLa.out; have := HLb.out; have := HLpm.out; have := HLpk.out; simp [ByteArray.size_append, bs_size, lit_size]; omega)
  have sh3 : short (({ data := #[109, 97, 112] } : ByteArray) ++ (((({ data := #[32] } : ByteArray) ++ (bs (dg p))) ++ ({ data := #[32] } : ByteArray)) ++ (bs (dg q)))) = true := short_of (by have := HLp.out; have := HLq.out; have := HLa.out; have := HLb.out; have := HLpm.out; have := HLpk.out; simp [ByteArray.size_append, bs_size, lit_size]; omega)
  have sh4 : short ((({ data := #[109, 97, 112] } : ByteArray) ++ (((({ data := #[32] } : ByteArray) ++ (bs (dg p))) ++ ({ data := #[32] } : ByteArray)) ++ (bs (dg q)))) ++ ({ data := #[32] } : ByteArray)) = true := short_of (by have := HLp.out; have := HLq.out; have := HLa.out; have := HLb.out; have := HLpm.out; have := HLpk.out; simp [ByteArray.size_append, bs_size, lit_size]; omega)
  have sh5 : short (((({ data := #[109, 97, 112] } : ByteArray) ++ (((({ data := #[32] } : ByteArray) ++ (bs (dg p))) ++ ({ data := #[32] } : ByteArray)) ++ (bs (dg q)))) ++ ({ data := #[32] } : ByteArray)) ++ (bs (permT pm))) = true := short_of (by have := HLp.out; have := HLq.out; have := HLa.out; have := HLb.out; have := HLpm.out; have := HLpk.out; simp [ByteArray.size_append, bs_size, lit_size]; omega)
  have sh6 : short ((((({ data := #[109, 97, 112] } : ByteArray) ++ (((({ data := #[32] } : ByteArray) ++ (bs (dg p))) ++ ({ data := #[32] } : ByteArray)) ++ (bs (dg q)))) ++ ({ data := #[32] } : ByteArray)) ++ (bs (permT pm))) ++ ({ data := #[32] } : ByteArray)) = true := short_of (by have := HLp.out; have := HLq.out; have := HLa.out; have := HLb.out; have := HLpm.out; have := HLpk.out; simp [ByteArray.size_append, bs_size, lit_size]; omega)
  have sh7 : short (((((({ data := #[109, 97, 112] } : ByteArray) ++ (((({ data := #[32] } : ByteArray) ++ (bs (dg p))) ++ ({ data := #[32] } : ByteArray)) ++ (bs (dg q)))) ++ ({ data := #[32] } : ByteArray)) ++ (bs (permT pm))) ++ ({ data := #[32] } : ByteArray)) ++ (bs (polT pk pn))) = true := short_of (by have := HLp.out; have := HLq.out; have := HLa.out; have := HLb.out; have := HLpm.out; have := HLpk.out; simp [ByteArray.size_append, bs_size, lit_size]; omega)
  go_enter Tryz.func28, Tryz.ntmps28
  go_wp2_with fail
  go_region_held3 (fun w' => w'.cell? ⟨w.heap.size, 1, none⟩ = some (.int .i64 p) ∧ w'.cell? ⟨w.heap.size, 2, none⟩ = some (.int .i64 q)) (first | exact ⟨c1_1, c1_2⟩ | exact ⟨c2_1, c2_2⟩ | go_keep)
    (first
    | (go_at_call 27; (with_reducible refine (digits_ri p _ HMp.out).mono ?_); rintro e w1 ⟨rfl, B⟩; have P := (HP0.out.drew).below B HP0.out.lt; have c1_0 : w1.cell? ⟨w.heap.size, 0, none⟩ = some (.int .i64 1) := P.cell 0; have c1_1 : w1.cell? ⟨w.heap.size, 1, none⟩ = some (.int .i64 p) := P.cell 1; have c1_2 : w1.cell? ⟨w.heap.size, 2, none⟩ = some (.int .i64 q) := P.cell 2; have c1_3 : w1.cell? ⟨w.heap.size, 3, none⟩ = some (.int .i64 pm) := P.cell 3; have r1 := P.rowOf; have q1 := P.plain; have l1 := P.lt; have HP1 := Lib.hid P; have HB1 := Lib.hid ((HB0.out.drew).trans (B.mono (HB0.out.drew).size)); clear P B)
    | (go_at_call 27; (with_reducible refine (digits_ri q _ HMq.out).mono ?_); rintro e w2 ⟨rfl, B⟩; have P := (HP1.out).below B HP1.out.lt; have c2_0 : w2.cell? ⟨w.heap.size, 0, none⟩ = some (.int .i64 1) := P.cell 0; have c2_1 : w2.cell? ⟨w.heap.size, 1, none⟩ = some (.int .i64 p) := P.cell 1; have c2_2 : w2.cell? ⟨w.heap.size, 2, none⟩ = some (.int .i64 q) := P.cell 2; have c2_3 : w2.cell? ⟨w.heap.size, 3, none⟩ = some (.int .i64 pm) := P.cell 3; have r2 := P.rowOf; have q2 := P.plain; have l2 := P.lt; have HP2 := Lib.hid P; have HB2 := Lib.hid ((HB1.out).trans (B.mono (HB1.out).size)); clear P B))
  go_wp2_with fail
  go_region_held3 (fun w' => w'.cell? ⟨w.heap.size, 3, none⟩ = some (.int .i64 pm) ∧ rowOf w' w.heap.size = #[.int .i64 1, .int .i64 p, .int .i64 q, .int .i64 pm, .int .i64 pk, .int .i64 pn, .int .i64 a, .int .i64 b] ∧ plainRow w' w.heap.size = true) (first | exact ⟨c2_3, r2, q2⟩ | exact ⟨c3_3, r3, q3⟩ | (refine ⟨?_, ?_, ?_⟩ <;> go_simp; done) | go_keep)
    (first
    | (go_at_call 45; refine (permT_r _ _).mono ?_; rintro e w9 ⟨rfl, rfl⟩)
    | (go_at_call 46; refine (polT_r _ pk pn HMpn.out).mono ?_; rintro e w3 ⟨rfl, B⟩; have P := (HP2.out.drew).below B HP2.out.lt; have c3_0 : w3.cell? ⟨w.heap.size, 0, none⟩ = some (.int .i64 1) := P.cell 0; have c3_1 : w3.cell? ⟨w.heap.size, 1, none⟩ = some (.int .i64 p) := P.cell 1; have c3_2 : w3.cell? ⟨w.heap.size, 2, none⟩ = some (.int .i64 q) := P.cell 2; have c3_3 : w3.cell? ⟨w.heap.size, 3, none⟩ = some (.int .i64 pm) := P.cell 3; have r3 := P.rowOf; have q3 := P.plain; have l3 := P.lt; have HP3 := Lib.hid P; have HB3 := Lib.hid ((HB2.out.drew).trans (B.mono (HB2.out.drew).size)); clear P B))
  go_wp2_with fail
  go_ret
  exact ⟨congrArg (fun s => Ending.returned (Value.string s)) (bs_eq (by simp [ByteArray.data_append, bs_data, callT, pagesT])), HB3.out⟩

set_option maxRecDepth 100000 in
set_option maxHeartbeats 4000000 in
theorem rcall_Unmap (w : World) (p q pm pk pn a b : Int) (hp : may p = true) (hq : may q = true) (hpn : may pn = true) (ha : may a = true) (hb : may b = true) :
    Calls Tryz.prog 28 #[.agg #[.int .i64 2, .int .i64 p, .int .i64 q, .int .i64 pm, .int .i64 pk, .int .i64 pn, .int .i64 a, .int .i64 b]] w fun e w' => e = .returned (.string (bs (callT ⟨2, p, q, pm, pk, pn, a, b⟩))) ∧ Below w.heap.size w w' := by
  have HLp := Lib.hid (dg_may hp)
  have HMp := Lib.hid hp
  have HLq := Lib.hid (dg_may hq)
  have HMq := Lib.hid hq
  have HLpn := Lib.hid (dg_may hpn)
  have HMpn := Lib.hid hpn
  have HLa := Lib.hid (dg_may ha)
  have HMa := Lib.hid ha
  have HLb := Lib.hid (dg_may hb)
  have HMb := Lib.hid hb
  clear hp hq hpn ha hb
  have HLpm := Lib.hid (permT_len pm)
  have HLpk := Lib.hid (polT_len pk HMpn.out)
  have B0 : Below w.heap.size w (w.alloc (.cells #[.int .i64 2, .int .i64 p, .int .i64 q, .int .i64 pm, .int .i64 pk, .int .i64 pn, .int .i64 a, .int .i64 b] 25)) := (Below.refl _ _).alloc (Nat.le_refl _) _
  have P0 : Blk (w.alloc (.cells #[.int .i64 2, .int .i64 p, .int .i64 q, .int .i64 pm, .int .i64 pk, .int .i64 pn, .int .i64 a, .int .i64 b] 25)) w.heap.size 25 #[.int .i64 2, .int .i64 p, .int .i64 q, .int .i64 pm, .int .i64 pk, .int .i64 pn, .int .i64 a, .int .i64 b] := Blk.new _ _ _
  have HB0 := Lib.hid B0
  have HP0 := Lib.hid P0
  clear B0 P0
  have sh0 : short (({ data := #[32] } : ByteArray) ++ (bs (dg p))) = true := short_of (by have := HLp.out; have := HLq.out; have := HLa.out; have := HLb.out; have := HLpm.out; have := HLpk.out; simp [ByteArray.size_append, bs_size, lit_size]; omega)
  have sh1 : short ((({ data := #[32] } : ByteArray) ++ (bs (dg p))) ++ ({ data := #[32] } : ByteArray)) = true := short_of (by have := HLp.out; have := HLq.out; have := HLa.out; have := HLb.out; have := HLpm.out; have := HLpk.out; simp [ByteArray.size_append, bs_size, lit_size]; omega)
  have sh2 : short (((({ data := #[32] } : ByteArray) ++ (bs (dg p))) ++ ({ data := #[32] } : ByteArray)) ++ (bs (dg q))) = true := short_of (by have := HLp.out; have := HLq.out; have := HLa.out; have := HLb.out; have := HLpm.out; have := HLpk.out; simp [ByteArray.size_append, bs_size, lit_size]; omega)
  have sh3 : short (({ data := #[117, 110, 109, 97, 112] } : ByteArray) ++ (((({ data := #[32] } : ByteArray) ++ (bs (dg p))) ++ ({ data := #[32] } : ByteArray)) ++ (bs (dg q)))) = true := short_of (by have := HLp.out; have := HLq.out; have := HLa.out; have := HLb.out; have := HLpm.out; have := HLpk.out; simp [ByteArray.size_append, bs_size, lit_size]; omega)
  go_enter Tryz.func28, Tryz.ntmps28
  go_wp2_with fail
  go_region_held3 (fun w' => w'.cell? ⟨w.heap.size, 1, none⟩ = some (.int .i64 p) ∧ w'.cell? ⟨w.heap.size, 2, none⟩ = some (.int .i64 q)) (first | exact ⟨c1_1, c1_2⟩ | exact ⟨c2_1, c2_2⟩ | go_keep)
    (first
    | (go_at_call 27; (with_reducible refine (digits_ri p _ HMp.out).mono ?_); rintro e w1 ⟨rfl, B⟩; have P := (HP0.out.drew).below B HP0.out.lt; have c1_0 : w1.cell? ⟨w.heap.size, 0, none⟩ = some (.int .i64 2) := P.cell 0; have c1_1 : w1.cell? ⟨w.heap.size, 1, none⟩ = some (.int .i64 p) := P.cell 1; have c1_2 : w1.cell? ⟨w.heap.size, 2, none⟩ = some (.int .i64 q) := P.cell 2; have HP1 := Lib.hid P; have HB1 := Lib.hid ((HB0.out.drew).trans (B.mono (HB0.out.drew).size)); clear P B)
    | (go_at_call 27; (with_reducible refine (digits_ri q _ HMq.out).mono ?_); rintro e w2 ⟨rfl, B⟩; have P := (HP1.out).below B HP1.out.lt; have c2_0 : w2.cell? ⟨w.heap.size, 0, none⟩ = some (.int .i64 2) := P.cell 0; have c2_1 : w2.cell? ⟨w.heap.size, 1, none⟩ = some (.int .i64 p) := P.cell 1; have c2_2 : w2.cell? ⟨w.heap.size, 2, none⟩ = some (.int .i64 q) := P.cell 2; have HP2 := Lib.hid P; have HB2 := Lib.hid ((HB1.out).trans (B.mono (HB1.out).size)); clear P B))
  go_wp2_with (first
    | fail)
  go_ret
  exact ⟨congrArg (fun s => Ending.returned (Value.string s)) (bs_eq (by simp [ByteArray.data_append, bs_data, callT, pagesT])), HB2.out⟩

set_option maxRecDepth 100000 in
set_option maxHeartbeats 4000000 in
theorem rcall_Protect (w : World) (p q pm pk pn a b : Int) (hp : may p = true) (hq : may q = true) (hpn : may pn = true) (ha : may a = true) (hb : may b = true) :
    Calls Tryz.prog 28 #[.agg #[.int .i64 3, .int .i64 p, .int .i64 q, .int .i64 pm, .int .i64 pk, .int .i64 pn, .int .i64 a, .int .i64 b]] w fun e w' => e = .returned (.string (bs (callT ⟨3, p, q, pm, pk, pn, a, b⟩))) ∧ Below w.heap.size w w' := by
  have HLp := Lib.hid (dg_may hp)
  have HMp := Lib.hid hp
  have HLq := Lib.hid (dg_may hq)
  have HMq := Lib.hid hq
  have HLpn := Lib.hid (dg_may hpn)
  have HMpn := Lib.hid hpn
  have HLa := Lib.hid (dg_may ha)
  have HMa := Lib.hid ha
  have HLb := Lib.hid (dg_may hb)
  have HMb := Lib.hid hb
  clear hp hq hpn ha hb
  have HLpm := Lib.hid (permT_len pm)
  have HLpk := Lib.hid (polT_len pk HMpn.out)
  have B0 : Below w.heap.size w (w.alloc (.cells #[.int .i64 3, .int .i64 p, .int .i64 q, .int .i64 pm, .int .i64 pk, .int .i64 pn, .int .i64 a, .int .i64 b] 25)) := (Below.refl _ _).alloc (Nat.le_refl _) _
  have P0 : Blk (w.alloc (.cells #[.int .i64 3, .int .i64 p, .int .i64 q, .int .i64 pm, .int .i64 pk, .int .i64 pn, .int .i64 a, .int .i64 b] 25)) w.heap.size 25 #[.int .i64 3, .int .i64 p, .int .i64 q, .int .i64 pm, .int .i64 pk, .int .i64 pn, .int .i64 a, .int .i64 b] := Blk.new _ _ _
  have HB0 := Lib.hid B0
  have HP0 := Lib.hid P0
  clear B0 P0
  have sh0 : short (({ data := #[32] } : ByteArray) ++ (bs (dg p))) = true := short_of (by have := HLp.out; have := HLq.out; have := HLa.out; have := HLb.out; have := HLpm.out; have := HLpk.out; simp [ByteArray.size_append, bs_size, lit_size]; omega)
  have sh1 : short ((({ data := #[32] } : ByteArray) ++ (bs (dg p))) ++ ({ data := #[32] } : ByteArray)) = true := short_of (by have := HLp.out; have := HLq.out; have := HLa.out; have := HLb.out; have := HLpm.out; have := HLpk.out; simp [ByteArray.size_append, bs_size, lit_size]; omega)
  have sh2 : short (((({ data := #[32] } : ByteArray) ++ (bs (dg p))) ++ ({ data := #[32] } : ByteArray)) ++ (bs (dg q))) = true := short_of (by have := HLp.out; have := HLq.out; have := HLa.out; have := HLb.out; have := HLpm.out; have := HLpk.out; simp [ByteArray.size_append, bs_size, lit_size]; omega)
  have sh3 : short (({ data := #[112, 114, 111, 116, 101, 99, 116] } : ByteArray) ++ (((({ data := #[32] } : ByteArray) ++ (bs (dg p))) ++ ({ data := #[32] } : ByteArray)) ++ (bs (dg q)))) = true := short_of (by have := HLp.out; have := HLq.out; have := HLa.out; have := HLb.out; have := HLpm.out; have := HLpk.out; simp [ByteArray.size_append, bs_size, lit_size]; omega)
  have sh4 : short ((({ data := #[112, 114, 111, 116, 101, 99, 116] } : ByteArray) ++ (((({ data := #[32] } : ByteArray) ++ (bs (dg p))) ++ ({ data := #[32] } : ByteArray)) ++ (bs (dg q)))) ++ ({ data := #[32] } : ByteArray)) = true := short_of (by have := HLp.out; have := HLq.out; have := HLa.out; have := HLb.out; have := HLpm.out; have := HLpk.out; simp [ByteArray.size_append, bs_size, lit_size]; omega)
  have sh5 : short (((({ data := #[112, 114, 111, 116, 101, 99, 116] } : ByteArray) ++ (((({ data := #[32] } : ByteArray) ++ (bs (dg p))) ++ ({ data := #[32] } : ByteArray)) ++ (bs (dg q)))) ++ ({ data := #[32] } : ByteArray)) ++ (bs (permT pm))) = true := short_of (by have := HLp.out; have := HLq.out; have := HLa.out; have := HLb.out; have := HLpm.out; have := HLpk.out; simp [ByteArray.size_append, bs_size, lit_size]; omega)
  go_enter Tryz.func28, Tryz.ntmps28
  go_wp2_with fail
  go_region_held3 (fun w' => w'.cell? ⟨w.heap.size, 1, none⟩ = some (.int .i64 p) ∧ w'.cell? ⟨w.heap.size, 2, none⟩ = some (.int .i64 q)) (first | exact ⟨c1_1, c1_2⟩ | exact ⟨c2_1, c2_2⟩ | go_keep)
    (first
    | (go_at_call 27; (with_reducible refine (digits_ri p _ HMp.out).mono ?_); rintro e w1 ⟨rfl, B⟩; have P := (HP0.out.drew).below B HP0.out.lt; have c1_0 : w1.cell? ⟨w.heap.size, 0, none⟩ = some (.int .i64 3) := P.cell 0; have c1_1 : w1.cell? ⟨w.heap.size, 1, none⟩ = some (.int .i64 p) := P.cell 1; have c1_2 : w1.cell? ⟨w.heap.size, 2, none⟩ = some (.int .i64 q) := P.cell 2; have c1_3 : w1.cell? ⟨w.heap.size, 3, none⟩ = some (.int .i64 pm) := P.cell 3; have HP1 := Lib.hid P; have HB1 := Lib.hid ((HB0.out.drew).trans (B.mono (HB0.out.drew).size)); clear P B)
    | (go_at_call 27; (with_reducible refine (digits_ri q _ HMq.out).mono ?_); rintro e w2 ⟨rfl, B⟩; have P := (HP1.out).below B HP1.out.lt; have c2_0 : w2.cell? ⟨w.heap.size, 0, none⟩ = some (.int .i64 3) := P.cell 0; have c2_1 : w2.cell? ⟨w.heap.size, 1, none⟩ = some (.int .i64 p) := P.cell 1; have c2_2 : w2.cell? ⟨w.heap.size, 2, none⟩ = some (.int .i64 q) := P.cell 2; have c2_3 : w2.cell? ⟨w.heap.size, 3, none⟩ = some (.int .i64 pm) := P.cell 3; have HP2 := Lib.hid P; have HB2 := Lib.hid ((HB1.out).trans (B.mono (HB1.out).size)); clear P B))
  go_wp2_with (first
    | (go_at_call 45; refine (permT_r _ _).mono ?_; rintro e w9 ⟨rfl, rfl⟩))
  go_ret
  exact ⟨congrArg (fun s => Ending.returned (Value.string s)) (bs_eq (by simp [ByteArray.data_append, bs_data, callT, pagesT])), HB2.out⟩

set_option maxRecDepth 100000 in
set_option maxHeartbeats 4000000 in
theorem rcall_Bind (w : World) (p q pm pk pn a b : Int) (hp : may p = true) (hq : may q = true) (hpn : may pn = true) (ha : may a = true) (hb : may b = true) :
    Calls Tryz.prog 28 #[.agg #[.int .i64 4, .int .i64 p, .int .i64 q, .int .i64 pm, .int .i64 pk, .int .i64 pn, .int .i64 a, .int .i64 b]] w fun e w' => e = .returned (.string (bs (callT ⟨4, p, q, pm, pk, pn, a, b⟩))) ∧ Below w.heap.size w w' := by
  have HLp := Lib.hid (dg_may hp)
  have HMp := Lib.hid hp
  have HLq := Lib.hid (dg_may hq)
  have HMq := Lib.hid hq
  have HLpn := Lib.hid (dg_may hpn)
  have HMpn := Lib.hid hpn
  have HLa := Lib.hid (dg_may ha)
  have HMa := Lib.hid ha
  have HLb := Lib.hid (dg_may hb)
  have HMb := Lib.hid hb
  clear hp hq hpn ha hb
  have HLpm := Lib.hid (permT_len pm)
  have HLpk := Lib.hid (polT_len pk HMpn.out)
  have B0 : Below w.heap.size w (w.alloc (.cells #[.int .i64 4, .int .i64 p, .int .i64 q, .int .i64 pm, .int .i64 pk, .int .i64 pn, .int .i64 a, .int .i64 b] 25)) := (Below.refl _ _).alloc (Nat.le_refl _) _
  have P0 : Blk (w.alloc (.cells #[.int .i64 4, .int .i64 p, .int .i64 q, .int .i64 pm, .int .i64 pk, .int .i64 pn, .int .i64 a, .int .i64 b] 25)) w.heap.size 25 #[.int .i64 4, .int .i64 p, .int .i64 q, .int .i64 pm, .int .i64 pk, .int .i64 pn, .int .i64 a, .int .i64 b] := Blk.new _ _ _
  have HB0 := Lib.hid B0
  have HP0 := Lib.hid P0
  clear B0 P0
  have sh0 : short (({ data := #[32] } : ByteArray) ++ (bs (dg p))) = true := short_of (by have := HLp.out; have := HLq.out; have := HLa.out; have := HLb.out; have := HLpm.out; have := HLpk.out; simp [ByteArray.size_append, bs_size, lit_size]; omega)
  have sh1 : short ((({ data := #[32] } : ByteArray) ++ (bs (dg p))) ++ ({ data := #[32] } : ByteArray)) = true := short_of (by have := HLp.out; have := HLq.out; have := HLa.out; have := HLb.out; have := HLpm.out; have := HLpk.out; simp [ByteArray.size_append, bs_size, lit_size]; omega)
  have sh2 : short (((({ data := #[32] } : ByteArray) ++ (bs (dg p))) ++ ({ data := #[32] } : ByteArray)) ++ (bs (dg q))) = true := short_of (by have := HLp.out; have := HLq.out; have := HLa.out; have := HLb.out; have := HLpm.out; have := HLpk.out; simp [ByteArray.size_append, bs_size, lit_size]; omega)
  have sh3 : short (({ data := #[98, 105, 110, 100] } : ByteArray) ++ (((({ data := #[32] } : ByteArray) ++ (bs (dg p))) ++ ({ data := #[32] } : ByteArray)) ++ (bs (dg q)))) = true := short_of (by have := HLp.out; have := HLq.out; have := HLa.out; have := HLb.out; have := HLpm.out; have := HLpk.out; simp [ByteArray.size_append, bs_size, lit_size]; omega)
  have sh4 : short ((({ data := #[98, 105, 110, 100] } : ByteArray) ++ (((({ data := #[32] } : ByteArray) ++ (bs (dg p))) ++ ({ data := #[32] } : ByteArray)) ++ (bs (dg q)))) ++ ({ data := #[32] } : ByteArray)) = true := short_of (by have := HLp.out; have := HLq.out; have := HLa.out; have := HLb.out; have := HLpm.out; have := HLpk.out; simp [ByteArray.size_append, bs_size, lit_size]; omega)
  have sh5 : short (((({ data := #[98, 105, 110, 100] } : ByteArray) ++ (((({ data := #[32] } : ByteArray) ++ (bs (dg p))) ++ ({ data := #[32] } : ByteArray)) ++ (bs (dg q)))) ++ ({ data := #[32] } : ByteArray)) ++ (bs (polT pk pn))) = true := short_of (by have := HLp.out; have := HLq.out; have := HLa.out; have := HLb.out; have := HLpm.out; have := HLpk.out; simp [ByteArray.size_append, bs_size, lit_size]; omega)
  go_enter Tryz.func28, Tryz.ntmps28
  go_wp2_with fail
  go_region_held3 (fun w' => w'.cell? ⟨w.heap.size, 1, none⟩ = some (.int .i64 p) ∧ w'.cell? ⟨w.heap.size, 2, none⟩ = some (.int .i64 q)) (first | exact ⟨c1_1, c1_2⟩ | exact ⟨c2_1, c2_2⟩ | go_keep)
    (first
    | (go_at_call 27; (with_reducible refine (digits_ri p _ HMp.out).mono ?_); rintro e w1 ⟨rfl, B⟩; have P := (HP0.out.drew).below B HP0.out.lt; have c1_0 : w1.cell? ⟨w.heap.size, 0, none⟩ = some (.int .i64 4) := P.cell 0; have c1_1 : w1.cell? ⟨w.heap.size, 1, none⟩ = some (.int .i64 p) := P.cell 1; have c1_2 : w1.cell? ⟨w.heap.size, 2, none⟩ = some (.int .i64 q) := P.cell 2; have r1 := P.rowOf; have q1 := P.plain; have l1 := P.lt; have HP1 := Lib.hid P; have HB1 := Lib.hid ((HB0.out.drew).trans (B.mono (HB0.out.drew).size)); clear P B)
    | (go_at_call 27; (with_reducible refine (digits_ri q _ HMq.out).mono ?_); rintro e w2 ⟨rfl, B⟩; have P := (HP1.out).below B HP1.out.lt; have c2_0 : w2.cell? ⟨w.heap.size, 0, none⟩ = some (.int .i64 4) := P.cell 0; have c2_1 : w2.cell? ⟨w.heap.size, 1, none⟩ = some (.int .i64 p) := P.cell 1; have c2_2 : w2.cell? ⟨w.heap.size, 2, none⟩ = some (.int .i64 q) := P.cell 2; have r2 := P.rowOf; have q2 := P.plain; have l2 := P.lt; have HP2 := Lib.hid P; have HB2 := Lib.hid ((HB1.out).trans (B.mono (HB1.out).size)); clear P B))
  go_wp2_with (first
    | (go_at_call 46; refine (polT_r _ pk pn HMpn.out).mono ?_; rintro e w3 ⟨rfl, B⟩; have P := (HP2.out).below B HP2.out.lt; have c3_0 : w3.cell? ⟨w.heap.size, 0, none⟩ = some (.int .i64 4) := P.cell 0; have c3_1 : w3.cell? ⟨w.heap.size, 1, none⟩ = some (.int .i64 p) := P.cell 1; have c3_2 : w3.cell? ⟨w.heap.size, 2, none⟩ = some (.int .i64 q) := P.cell 2; have r3 := P.rowOf; have q3 := P.plain; have l3 := P.lt; have HP3 := Lib.hid P; have HB3 := Lib.hid ((HB2.out).trans (B.mono (HB2.out).size)); clear P B))
  go_ret
  exact ⟨congrArg (fun s => Ending.returned (Value.string s)) (bs_eq (by simp [ByteArray.data_append, bs_data, callT, pagesT])), HB3.out⟩

set_option maxRecDepth 100000 in
set_option maxHeartbeats 4000000 in
theorem rcall_Load (w : World) (p q pm pk pn a b : Int) (hp : may p = true) (hq : may q = true) (hpn : may pn = true) (ha : may a = true) (hb : may b = true) :
    Calls Tryz.prog 28 #[.agg #[.int .i64 5, .int .i64 p, .int .i64 q, .int .i64 pm, .int .i64 pk, .int .i64 pn, .int .i64 a, .int .i64 b]] w fun e w' => e = .returned (.string (bs (callT ⟨5, p, q, pm, pk, pn, a, b⟩))) ∧ Below w.heap.size w w' := by
  have HLp := Lib.hid (dg_may hp)
  have HMp := Lib.hid hp
  have HLq := Lib.hid (dg_may hq)
  have HMq := Lib.hid hq
  have HLpn := Lib.hid (dg_may hpn)
  have HMpn := Lib.hid hpn
  have HLa := Lib.hid (dg_may ha)
  have HMa := Lib.hid ha
  have HLb := Lib.hid (dg_may hb)
  have HMb := Lib.hid hb
  clear hp hq hpn ha hb
  have HLpm := Lib.hid (permT_len pm)
  have HLpk := Lib.hid (polT_len pk HMpn.out)
  have B0 : Below w.heap.size w (w.alloc (.cells #[.int .i64 5, .int .i64 p, .int .i64 q, .int .i64 pm, .int .i64 pk, .int .i64 pn, .int .i64 a, .int .i64 b] 25)) := (Below.refl _ _).alloc (Nat.le_refl _) _
  have P0 : Blk (w.alloc (.cells #[.int .i64 5, .int .i64 p, .int .i64 q, .int .i64 pm, .int .i64 pk, .int .i64 pn, .int .i64 a, .int .i64 b] 25)) w.heap.size 25 #[.int .i64 5, .int .i64 p, .int .i64 q, .int .i64 pm, .int .i64 pk, .int .i64 pn, .int .i64 a, .int .i64 b] := Blk.new _ _ _
  have HB0 := Lib.hid B0
  have HP0 := Lib.hid P0
  clear B0 P0
  have sh0 : short (({ data := #[32] } : ByteArray) ++ (bs (dg p))) = true := short_of (by have := HLp.out; have := HLq.out; have := HLa.out; have := HLb.out; have := HLpm.out; have := HLpk.out; simp [ByteArray.size_append, bs_size, lit_size]; omega)
  have sh1 : short ((({ data := #[32] } : ByteArray) ++ (bs (dg p))) ++ ({ data := #[32] } : ByteArray)) = true := short_of (by have := HLp.out; have := HLq.out; have := HLa.out; have := HLb.out; have := HLpm.out; have := HLpk.out; simp [ByteArray.size_append, bs_size, lit_size]; omega)
  have sh2 : short (((({ data := #[32] } : ByteArray) ++ (bs (dg p))) ++ ({ data := #[32] } : ByteArray)) ++ (bs (dg q))) = true := short_of (by have := HLp.out; have := HLq.out; have := HLa.out; have := HLb.out; have := HLpm.out; have := HLpk.out; simp [ByteArray.size_append, bs_size, lit_size]; omega)
  have sh3 : short (({ data := #[108, 111, 97, 100, 32] } : ByteArray) ++ (bs (dg a))) = true := short_of (by have := HLp.out; have := HLq.out; have := HLa.out; have := HLb.out; have := HLpm.out; have := HLpk.out; simp [ByteArray.size_append, bs_size, lit_size]; omega)
  go_enter Tryz.func28, Tryz.ntmps28
  go_wp2_with fail
  go_region_held3 (fun w' => w'.cell? ⟨w.heap.size, 1, none⟩ = some (.int .i64 p) ∧ w'.cell? ⟨w.heap.size, 2, none⟩ = some (.int .i64 q)) (first | exact ⟨c1_1, c1_2⟩ | exact ⟨c2_1, c2_2⟩ | go_keep)
    (first
    | (go_at_call 27; (with_reducible refine (digits_ri p _ HMp.out).mono ?_); rintro e w1 ⟨rfl, B⟩; have P := (HP0.out.drew).below B HP0.out.lt; have c1_0 : w1.cell? ⟨w.heap.size, 0, none⟩ = some (.int .i64 5) := P.cell 0; have c1_1 : w1.cell? ⟨w.heap.size, 1, none⟩ = some (.int .i64 p) := P.cell 1; have c1_2 : w1.cell? ⟨w.heap.size, 2, none⟩ = some (.int .i64 q) := P.cell 2; have c1_6 : w1.cell? ⟨w.heap.size, 6, none⟩ = some (.int .i64 a) := P.cell 6; have HP1 := Lib.hid P; have HB1 := Lib.hid ((HB0.out.drew).trans (B.mono (HB0.out.drew).size)); clear P B)
    | (go_at_call 27; (with_reducible refine (digits_ri q _ HMq.out).mono ?_); rintro e w2 ⟨rfl, B⟩; have P := (HP1.out).below B HP1.out.lt; have c2_0 : w2.cell? ⟨w.heap.size, 0, none⟩ = some (.int .i64 5) := P.cell 0; have c2_1 : w2.cell? ⟨w.heap.size, 1, none⟩ = some (.int .i64 p) := P.cell 1; have c2_2 : w2.cell? ⟨w.heap.size, 2, none⟩ = some (.int .i64 q) := P.cell 2; have c2_6 : w2.cell? ⟨w.heap.size, 6, none⟩ = some (.int .i64 a) := P.cell 6; have HP2 := Lib.hid P; have HB2 := Lib.hid ((HB1.out).trans (B.mono (HB1.out).size)); clear P B))
  go_wp2_with (first
    | (go_at_call 27; (with_reducible refine (digits_ri a _ HMa.out).mono ?_); rintro e w3 ⟨rfl, B⟩; have P := (HP2.out).below B HP2.out.lt; have c3_0 : w3.cell? ⟨w.heap.size, 0, none⟩ = some (.int .i64 5) := P.cell 0; have c3_1 : w3.cell? ⟨w.heap.size, 1, none⟩ = some (.int .i64 p) := P.cell 1; have c3_2 : w3.cell? ⟨w.heap.size, 2, none⟩ = some (.int .i64 q) := P.cell 2; have c3_6 : w3.cell? ⟨w.heap.size, 6, none⟩ = some (.int .i64 a) := P.cell 6; have HP3 := Lib.hid P; have HB3 := Lib.hid ((HB2.out).trans (B.mono (HB2.out).size)); clear P B))
  go_ret
  exact ⟨congrArg (fun s => Ending.returned (Value.string s)) (bs_eq (by simp [ByteArray.data_append, bs_data, callT])), HB3.out⟩

set_option maxRecDepth 100000 in
set_option maxHeartbeats 4000000 in
theorem rcall_other (w : World) (k p q pm pk pn a b : Int) (h1 : k ≠ 1) (h2 : k ≠ 2) (h3 : k ≠ 3) (h4 : k ≠ 4) (h5 : k ≠ 5) (hp : may p = true) (hq : may q = true) (hpn : may pn = true) (ha : may a = true) (hb : may b = true) :
    Calls Tryz.prog 28 #[.agg #[.int .i64 k, .int .i64 p, .int .i64 q, .int .i64 pm, .int .i64 pk, .int .i64 pn, .int .i64 a, .int .i64 b]] w fun e w' => e = .returned (.string (bs (callT ⟨k, p, q, pm, pk, pn, a, b⟩))) ∧ Below w.heap.size w w' := by
  have g1 : (k == 1) = false := by simpa using h1
  have g2 : (k == 2) = false := by simpa using h2
  have g3 : (k == 3) = false := by simpa using h3
  have g4 : (k == 4) = false := by simpa using h4
  have g5 : (k == 5) = false := by simpa using h5
  have HLp := Lib.hid (dg_may hp)
  have HMp := Lib.hid hp
  have HLq := Lib.hid (dg_may hq)
  have HMq := Lib.hid hq
  have HLpn := Lib.hid (dg_may hpn)
  have HMpn := Lib.hid hpn
  have HLa := Lib.hid (dg_may ha)
  have HMa := Lib.hid ha
  have HLb := Lib.hid (dg_may hb)
  have HMb := Lib.hid hb
  clear hp hq hpn ha hb
  have HLpm := Lib.hid (permT_len pm)
  have HLpk := Lib.hid (polT_len pk HMpn.out)
  have B0 : Below w.heap.size w (w.alloc (.cells #[.int .i64 k, .int .i64 p, .int .i64 q, .int .i64 pm, .int .i64 pk, .int .i64 pn, .int .i64 a, .int .i64 b] 25)) := (Below.refl _ _).alloc (Nat.le_refl _) _
  have P0 : Blk (w.alloc (.cells #[.int .i64 k, .int .i64 p, .int .i64 q, .int .i64 pm, .int .i64 pk, .int .i64 pn, .int .i64 a, .int .i64 b] 25)) w.heap.size 25 #[.int .i64 k, .int .i64 p, .int .i64 q, .int .i64 pm, .int .i64 pk, .int .i64 pn, .int .i64 a, .int .i64 b] := Blk.new _ _ _
  have HB0 := Lib.hid B0
  have HP0 := Lib.hid P0
  clear B0 P0
  have sh0 : short (({ data := #[32] } : ByteArray) ++ (bs (dg p))) = true := short_of (by have := HLp.out; have := HLq.out; have := HLa.out; have := HLb.out; have := HLpm.out; have := HLpk.out; simp [ByteArray.size_append, bs_size, lit_size]; omega)
  have sh1 : short ((({ data := #[32] } : ByteArray) ++ (bs (dg p))) ++ ({ data := #[32] } : ByteArray)) = true := short_of (by have := HLp.out; have := HLq.out; have := HLa.out; have := HLb.out; have := HLpm.out; have := HLpk.out; simp [ByteArray.size_append, bs_size, lit_size]; omega)
  have sh2 : short (((({ data := #[32] } : ByteArray) ++ (bs (dg p))) ++ ({ data := #[32] } : ByteArray)) ++ (bs (dg q))) = true := short_of (by have := HLp.out; have := HLq.out; have := HLa.out; have := HLb.out; have := HLpm.out; have := HLpk.out; simp [ByteArray.size_append, bs_size, lit_size]; omega)
  have sh3 : short (({ data := #[115, 116, 111, 114, 101, 32] } : ByteArray) ++ (bs (dg a))) = true := short_of (by have := HLp.out; have := HLq.out; have := HLa.out; have := HLb.out; have := HLpm.out; have := HLpk.out; simp [ByteArray.size_append, bs_size, lit_size]; omega)
  have sh4 : short ((({ data := #[115, 116, 111, 114, 101, 32] } : ByteArray) ++ (bs (dg a))) ++ ({ data := #[32] } : ByteArray)) = true := short_of (by have := HLp.out; have := HLq.out; have := HLa.out; have := HLb.out; have := HLpm.out; have := HLpk.out; simp [ByteArray.size_append, bs_size, lit_size]; omega)
  have sh5 : short (((({ data := #[115, 116, 111, 114, 101, 32] } : ByteArray) ++ (bs (dg a))) ++ ({ data := #[32] } : ByteArray)) ++ (bs (dg b))) = true := short_of (by have := HLp.out; have := HLq.out; have := HLa.out; have := HLb.out; have := HLpm.out; have := HLpk.out; simp [ByteArray.size_append, bs_size, lit_size]; omega)
  go_enter Tryz.func28, Tryz.ntmps28
  go_wp2_with fail
  go_region_held3 (fun w' => w'.cell? ⟨w.heap.size, 1, none⟩ = some (.int .i64 p) ∧ w'.cell? ⟨w.heap.size, 2, none⟩ = some (.int .i64 q)) (first | exact ⟨c1_1, c1_2⟩ | exact ⟨c2_1, c2_2⟩ | go_keep)
    (first
    | (go_at_call 27; (with_reducible refine (digits_ri p _ HMp.out).mono ?_); rintro e w1 ⟨rfl, B⟩; have P := (HP0.out.drew).below B HP0.out.lt; have c1_0 : w1.cell? ⟨w.heap.size, 0, none⟩ = some (.int .i64 k) := P.cell 0; have c1_1 : w1.cell? ⟨w.heap.size, 1, none⟩ = some (.int .i64 p) := P.cell 1; have c1_2 : w1.cell? ⟨w.heap.size, 2, none⟩ = some (.int .i64 q) := P.cell 2; have c1_6 : w1.cell? ⟨w.heap.size, 6, none⟩ = some (.int .i64 a) := P.cell 6; have c1_7 : w1.cell? ⟨w.heap.size, 7, none⟩ = some (.int .i64 b) := P.cell 7; have HP1 := Lib.hid P; have HB1 := Lib.hid ((HB0.out.drew).trans (B.mono (HB0.out.drew).size)); clear P B)
    | (go_at_call 27; (with_reducible refine (digits_ri q _ HMq.out).mono ?_); rintro e w2 ⟨rfl, B⟩; have P := (HP1.out).below B HP1.out.lt; have c2_0 : w2.cell? ⟨w.heap.size, 0, none⟩ = some (.int .i64 k) := P.cell 0; have c2_1 : w2.cell? ⟨w.heap.size, 1, none⟩ = some (.int .i64 p) := P.cell 1; have c2_2 : w2.cell? ⟨w.heap.size, 2, none⟩ = some (.int .i64 q) := P.cell 2; have c2_6 : w2.cell? ⟨w.heap.size, 6, none⟩ = some (.int .i64 a) := P.cell 6; have c2_7 : w2.cell? ⟨w.heap.size, 7, none⟩ = some (.int .i64 b) := P.cell 7; have HP2 := Lib.hid P; have HB2 := Lib.hid ((HB1.out).trans (B.mono (HB1.out).size)); clear P B))
  go_wp2_with fail
  go_region_held3 (fun w' => w'.cell? ⟨w.heap.size, 6, none⟩ = some (.int .i64 a) ∧ w'.cell? ⟨w.heap.size, 7, none⟩ = some (.int .i64 b)) (first | exact ⟨c2_6, c2_7⟩ | exact ⟨c3_6, c3_7⟩ | exact ⟨c4_6, c4_7⟩ | go_keep)
    (first
    | (go_at_call 27; (with_reducible refine (digits_ri a _ HMa.out).mono ?_); rintro e w3 ⟨rfl, B⟩; have P := (HP2.out.drew).below B HP2.out.lt; have c3_0 : w3.cell? ⟨w.heap.size, 0, none⟩ = some (.int .i64 k) := P.cell 0; have c3_1 : w3.cell? ⟨w.heap.size, 1, none⟩ = some (.int .i64 p) := P.cell 1; have c3_2 : w3.cell? ⟨w.heap.size, 2, none⟩ = some (.int .i64 q) := P.cell 2; have c3_6 : w3.cell? ⟨w.heap.size, 6, none⟩ = some (.int .i64 a) := P.cell 6; have c3_7 : w3.cell? ⟨w.heap.size, 7, none⟩ = some (.int .i64 b) := P.cell 7; have HP3 := Lib.hid P; have HB3 := Lib.hid ((HB2.out.drew).trans (B.mono (HB2.out.drew).size)); clear P B)
    | (go_at_call 27; (with_reducible refine (digits_ri b _ HMb.out).mono ?_); rintro e w4 ⟨rfl, B⟩; have P := (HP3.out).below B HP3.out.lt; have c4_0 : w4.cell? ⟨w.heap.size, 0, none⟩ = some (.int .i64 k) := P.cell 0; have c4_1 : w4.cell? ⟨w.heap.size, 1, none⟩ = some (.int .i64 p) := P.cell 1; have c4_2 : w4.cell? ⟨w.heap.size, 2, none⟩ = some (.int .i64 q) := P.cell 2; have c4_6 : w4.cell? ⟨w.heap.size, 6, none⟩ = some (.int .i64 a) := P.cell 6; have c4_7 : w4.cell? ⟨w.heap.size, 7, none⟩ = some (.int .i64 b) := P.cell 7; have HP4 := Lib.hid P; have HB4 := Lib.hid ((HB3.out).trans (B.mono (HB3.out).size)); clear P B))
  go_wp2_with fail
  go_ret
  exact ⟨congrArg (fun s => Ending.returned (Value.string s)) (bs_eq (by simp [ByteArray.data_append, bs_data, callT, h1, h2, h3, h4, h5])), HB4.out⟩

/-- A call all of whose numbers may be written. -/
structure MayC (c : Cl) : Prop where
  p : may c.page = true
  q : may c.pages = true
  pn : may c.pn = true
  a : may c.addr = true
  b : may c.byte = true
theorem callT_r (w : World) (c : Cl) (h : MayC c) : Calls Tryz.prog 28 #[.agg c.arr] w fun e w' => e = .returned (.string (bs (callT c))) ∧ Below w.heap.size w w' := by
  obtain ⟨k, p, q, pm, pk, pn, a, b⟩ := c
  obtain ⟨hp, hq, hpn, ha, hb⟩ := h
  have e : Cl.arr ⟨k, p, q, pm, pk, pn, a, b⟩ = #[.int .i64 k, .int .i64 p, .int .i64 q, .int .i64 pm, .int .i64 pk, .int .i64 pn, .int .i64 a, .int .i64 b] := rfl
  rw [e]
  simp only at hp hq hpn ha hb
  by_cases h1 : k = 1
  · subst h1; exact rcall_Map w p q pm pk pn a b hp hq hpn ha hb
  · by_cases h2 : k = 2
    · subst h2; exact rcall_Unmap w p q pm pk pn a b hp hq hpn ha hb
    · by_cases h3 : k = 3
      · subst h3; exact rcall_Protect w p q pm pk pn a b hp hq hpn ha hb
      · by_cases h4 : k = 4
        · subst h4; exact rcall_Bind w p q pm pk pn a b hp hq hpn ha hb
        · by_cases h5 : k = 5
          · subst h5; exact rcall_Load w p q pm pk pn a b hp hq hpn ha hb
          · exact rcall_other w k p q pm pk pn a b h1 h2 h3 h4 h5 hp hq hpn ha hb
theorem callT_len (c : Cl) (h : MayC c) : (callT c).length ≤ 150 := by
  have h1 := dg_may h.p
  have h2 := dg_may h.q
  have h3 := permT_len c.perm
  have h4 := polT_len c.pk h.pn
  have h5 := dg_may h.a
  have h6 := dg_may h.b
  unfold callT pagesT
  repeat' split
  all_goals (simp; try omega)
end Go.Proofs.YtccoafacbbkooaaGreatDoor
