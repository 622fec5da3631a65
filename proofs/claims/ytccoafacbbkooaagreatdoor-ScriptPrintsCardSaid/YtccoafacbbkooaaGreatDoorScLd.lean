/- Script: the reference's text. Printed by mkScY.py. -/
import Derived.Test.YtccoafacbbkooaaGreatDoorScLc
namespace Go.Proofs.YtccoafacbbkooaaGreatDoor
open Go.RowKit Go.Maps

set_option maxRecDepth 100000 in
set_option maxHeartbeats 4000000 in
theorem rtext_call (w : World) (o c0 c1 c2 c3 c4 c5 c6 c7 jk jp jn n : Int) (hmc : MayC ⟨c0, c1, c2, c3, c4, c5, c6, c7⟩) (ho : may o = true) (hn : may n = true) (hjp : may jp = true) (hjn : may jn = true) :
    Calls Tryz.prog 15 #[.agg #[.int .i64 1, .int .i64 o, .int .i64 c0, .int .i64 c1, .int .i64 c2, .int .i64 c3, .int .i64 c4, .int .i64 c5, .int .i64 c6, .int .i64 c7, .int .i64 jk, .int .i64 jp, .int .i64 jn, .int .i64 n]] w fun e w' => e = .returned (.string (bs (textT ⟨1, o, ⟨c0, c1, c2, c3, c4, c5, c6, c7⟩, jk, jp, jn, n⟩))) ∧ Below w.heap.size w w' := by
  have hcw := fun (W : World) => callT_r W (⟨c0, c1, c2, c3, c4, c5, c6, c7⟩ : Cl) hmc
  unfold Cl.arr at hcw
  simp only at hcw
  have HCW := Lib.hid hcw
  have HLC := Lib.hid (callT_len (⟨c0, c1, c2, c3, c4, c5, c6, c7⟩ : Cl) hmc)
  clear hcw hmc
  have HLo := Lib.hid (dg_may ho)
  have HMo := Lib.hid ho
  have HLn := Lib.hid (dg_may hn)
  have HMn := Lib.hid hn
  have HLjp := Lib.hid (dg_may hjp)
  have HMjp := Lib.hid hjp
  have HLjn := Lib.hid (dg_may hjn)
  have HMjn := Lib.hid hjn
  clear ho hn hjp hjn
  have B0 : Below w.heap.size w (w.alloc (.cells #[.int .i64 1, .int .i64 o, .int .i64 c0, .int .i64 c1, .int .i64 c2, .int .i64 c3, .int .i64 c4, .int .i64 c5, .int .i64 c6, .int .i64 c7, .int .i64 jk, .int .i64 jp, .int .i64 jn, .int .i64 n] 29)) := (Below.refl _ _).alloc (Nat.le_refl _) _
  have P0 : Blk (w.alloc (.cells #[.int .i64 1, .int .i64 o, .int .i64 c0, .int .i64 c1, .int .i64 c2, .int .i64 c3, .int .i64 c4, .int .i64 c5, .int .i64 c6, .int .i64 c7, .int .i64 jk, .int .i64 jp, .int .i64 jn, .int .i64 n] 29)) w.heap.size 29 #[.int .i64 1, .int .i64 o, .int .i64 c0, .int .i64 c1, .int .i64 c2, .int .i64 c3, .int .i64 c4, .int .i64 c5, .int .i64 c6, .int .i64 c7, .int .i64 jk, .int .i64 jp, .int .i64 jn, .int .i64 n] := Blk.new _ _ _
  have HB0 := Lib.hid B0
  have HP0 := Lib.hid P0
  clear B0 P0
  have sh0 : short (({ data := #[32] } : ByteArray) ++ (bs (dg jp))) = true := short_of (by have := HLo.out; have := HLn.out; have := HLjp.out; have := HLjn.out; have := HLC.out; simp [ByteArray.size_append, bs_size, lit_size]; omega)
  have sh1 : short ((({ data := #[32] } : ByteArray) ++ (bs (dg jp))) ++ ({ data := #[32] } : ByteArray)) = true := short_of (by have := HLo.out; have := HLn.out; have := HLjp.out; have := HLjn.out; have := HLC.out; simp [ByteArray.size_append, bs_size, lit_size]; omega)
  have sh2 : short (((({ data := #[32] } : ByteArray) ++ (bs (dg jp))) ++ ({ data := #[32] } : ByteArray)) ++ (bs (dg jn))) = true := short_of (by have := HLo.out; have := HLn.out; have := HLjp.out; have := HLjn.out; have := HLC.out; simp [ByteArray.size_append, bs_size, lit_size]; omega)
  have sh3 : short ((bs (dg o)) ++ ({ data := #[32] } : ByteArray)) = true := short_of (by have := HLo.out; have := HLn.out; have := HLjp.out; have := HLjn.out; have := HLC.out; simp [ByteArray.size_append, bs_size, lit_size]; omega)
  have sh4 : short (((bs (dg o)) ++ ({ data := #[32] } : ByteArray)) ++ (bs (callT ⟨c0, c1, c2, c3, c4, c5, c6, c7⟩))) = true := short_of (by have := HLo.out; have := HLn.out; have := HLjp.out; have := HLjn.out; have := HLC.out; simp [ByteArray.size_append, bs_size, lit_size]; omega)
  go_enter Tryz.func15, Tryz.ntmps15
  go_wp2_with (first
    | (go_at_call 27; (with_reducible refine (digits_ri o _ HMo.out).mono ?_); rintro e w1 ⟨rfl, B⟩; have P := (HP0.out).below B HP0.out.lt; have c1_0 : w1.cell? ⟨w.heap.size, 0, none⟩ = some (.int .i64 1) := P.cell 0; have c1_1 : w1.cell? ⟨w.heap.size, 1, none⟩ = some (.int .i64 o) := P.cell 1; have c1_10 : w1.cell? ⟨w.heap.size, 10, none⟩ = some (.int .i64 jk) := P.cell 10; have c1_11 : w1.cell? ⟨w.heap.size, 11, none⟩ = some (.int .i64 jp) := P.cell 11; have c1_12 : w1.cell? ⟨w.heap.size, 12, none⟩ = some (.int .i64 jn) := P.cell 12; have c1_13 : w1.cell? ⟨w.heap.size, 13, none⟩ = some (.int .i64 n) := P.cell 13; have r1 := P.rowOf; have q1 := P.plain; have l1 := P.lt; have HP1 := Lib.hid P; have HB1 := Lib.hid ((HB0.out).trans (B.mono (HB0.out).size)); clear P B))
  go_region_held3 (fun w' => w'.cell? ⟨w.heap.size, 11, none⟩ = some (.int .i64 jp) ∧ w'.cell? ⟨w.heap.size, 12, none⟩ = some (.int .i64 jn)) (first | exact ⟨c1_11, c1_12⟩ | exact ⟨c2_11, c2_12⟩ | exact ⟨c3_11, c3_12⟩ | go_keep)
    (first
    | (go_at_call 27; (with_reducible refine (digits_ri jp _ HMjp.out).mono ?_); rintro e w2 ⟨rfl, B⟩; have P := (HP1.out.drew).below B HP1.out.lt; have c2_0 : w2.cell? ⟨w.heap.size, 0, none⟩ = some (.int .i64 1) := P.cell 0; have c2_1 : w2.cell? ⟨w.heap.size, 1, none⟩ = some (.int .i64 o) := P.cell 1; have c2_10 : w2.cell? ⟨w.heap.size, 10, none⟩ = some (.int .i64 jk) := P.cell 10; have c2_11 : w2.cell? ⟨w.heap.size, 11, none⟩ = some (.int .i64 jp) := P.cell 11; have c2_12 : w2.cell? ⟨w.heap.size, 12, none⟩ = some (.int .i64 jn) := P.cell 12; have c2_13 : w2.cell? ⟨w.heap.size, 13, none⟩ = some (.int .i64 n) := P.cell 13; have r2 := P.rowOf; have q2 := P.plain; have l2 := P.lt; have HP2 := Lib.hid P; have HB2 := Lib.hid ((HB1.out.drew).trans (B.mono (HB1.out.drew).size)); clear P B)
    | (go_at_call 27; (with_reducible refine (digits_ri jn _ HMjn.out).mono ?_); rintro e w3 ⟨rfl, B⟩; have P := (HP2.out).below B HP2.out.lt; have c3_0 : w3.cell? ⟨w.heap.size, 0, none⟩ = some (.int .i64 1) := P.cell 0; have c3_1 : w3.cell? ⟨w.heap.size, 1, none⟩ = some (.int .i64 o) := P.cell 1; have c3_10 : w3.cell? ⟨w.heap.size, 10, none⟩ = some (.int .i64 jk) := P.cell 10; have c3_11 : w3.cell? ⟨w.heap.size, 11, none⟩ = some (.int .i64 jp) := P.cell 11; have c3_12 : w3.cell? ⟨w.heap.size, 12, none⟩ = some (.int .i64 jn) := P.cell 12; have c3_13 : w3.cell? ⟨w.heap.size, 13, none⟩ = some (.int .i64 n) := P.cell 13; have r3 := P.rowOf; have q3 := P.plain; have l3 := P.lt; have HP3 := Lib.hid P; have HB3 := Lib.hid ((HB2.out).trans (B.mono (HB2.out).size)); clear P B))
  go_wp2_with (first
    | (go_at_call 28; refine (HCW.out _).mono ?_; rintro e w4 ⟨rfl, B⟩; have P := (HP3.out).below B HP3.out.lt; have c4_0 : w4.cell? ⟨w.heap.size, 0, none⟩ = some (.int .i64 1) := P.cell 0; have c4_1 : w4.cell? ⟨w.heap.size, 1, none⟩ = some (.int .i64 o) := P.cell 1; have c4_10 : w4.cell? ⟨w.heap.size, 10, none⟩ = some (.int .i64 jk) := P.cell 10; have c4_11 : w4.cell? ⟨w.heap.size, 11, none⟩ = some (.int .i64 jp) := P.cell 11; have c4_12 : w4.cell? ⟨w.heap.size, 12, none⟩ = some (.int .i64 jn) := P.cell 12; have c4_13 : w4.cell? ⟨w.heap.size, 13, none⟩ = some (.int .i64 n) := P.cell 13; have r4 := P.rowOf; have q4 := P.plain; have l4 := P.lt; have HP4 := Lib.hid P; have HB4 := Lib.hid ((HB3.out).trans (B.mono (HB3.out).size)); clear P B))
  go_ret
  exact ⟨congrArg (fun s => Ending.returned (Value.string s)) (bs_eq (by simp [ByteArray.data_append, bs_data, textT])), HB4.out⟩

set_option maxRecDepth 100000 in
set_option maxHeartbeats 4000000 in
theorem rtext_Core (w : World) (o c0 c1 c2 c3 c4 c5 c6 c7 jk jp jn n : Int) (ho : may o = true) (hn : may n = true) (hjp : may jp = true) (hjn : may jn = true) :
    Calls Tryz.prog 15 #[.agg #[.int .i64 2, .int .i64 o, .int .i64 c0, .int .i64 c1, .int .i64 c2, .int .i64 c3, .int .i64 c4, .int .i64 c5, .int .i64 c6, .int .i64 c7, .int .i64 jk, .int .i64 jp, .int .i64 jn, .int .i64 n]] w fun e w' => e = .returned (.string (bs (textT ⟨2, o, ⟨c0, c1, c2, c3, c4, c5, c6, c7⟩, jk, jp, jn, n⟩))) ∧ Below w.heap.size w w' := by
  have HLo := Lib.hid (dg_may ho)
  have HMo := Lib.hid ho
  have HLn := Lib.hid (dg_may hn)
  have HMn := Lib.hid hn
  have HLjp := Lib.hid (dg_may hjp)
  have HMjp := Lib.hid hjp
  have HLjn := Lib.hid (dg_may hjn)
  have HMjn := Lib.hid hjn
  clear ho hn hjp hjn
  have B0 : Below w.heap.size w (w.alloc (.cells #[.int .i64 2, .int .i64 o, .int .i64 c0, .int .i64 c1, .int .i64 c2, .int .i64 c3, .int .i64 c4, .int .i64 c5, .int .i64 c6, .int .i64 c7, .int .i64 jk, .int .i64 jp, .int .i64 jn, .int .i64 n] 29)) := (Below.refl _ _).alloc (Nat.le_refl _) _
  have P0 : Blk (w.alloc (.cells #[.int .i64 2, .int .i64 o, .int .i64 c0, .int .i64 c1, .int .i64 c2, .int .i64 c3, .int .i64 c4, .int .i64 c5, .int .i64 c6, .int .i64 c7, .int .i64 jk, .int .i64 jp, .int .i64 jn, .int .i64 n] 29)) w.heap.size 29 #[.int .i64 2, .int .i64 o, .int .i64 c0, .int .i64 c1, .int .i64 c2, .int .i64 c3, .int .i64 c4, .int .i64 c5, .int .i64 c6, .int .i64 c7, .int .i64 jk, .int .i64 jp, .int .i64 jn, .int .i64 n] := Blk.new _ _ _
  have HB0 := Lib.hid B0
  have HP0 := Lib.hid P0
  clear B0 P0
  have sh0 : short (({ data := #[32] } : ByteArray) ++ (bs (dg jp))) = true := short_of (by have := HLo.out; have := HLn.out; have := HLjp.out; have := HLjn.out; simp [ByteArray.size_append, bs_size, lit_size]; omega)
  have sh1 : short ((({ data := #[32] } : ByteArray) ++ (bs (dg jp))) ++ ({ data := #[32] } : ByteArray)) = true := short_of (by have := HLo.out; have := HLn.out; have := HLjp.out; have := HLjn.out; simp [ByteArray.size_append, bs_size, lit_size]; omega)
  have sh2 : short (((({ data := #[32] } : ByteArray) ++ (bs (dg jp))) ++ ({ data := #[32] } : ByteArray)) ++ (bs (dg jn))) = true := short_of (by have := HLo.out; have := HLn.out; have := HLjp.out; have := HLjn.out; simp [ByteArray.size_append, bs_size, lit_size]; omega)
  have sh3 : short (({ data := #[99, 111, 114, 101, 32] } : ByteArray) ++ (bs (dg o))) = true := short_of (by have := HLo.out; have := HLn.out; have := HLjp.out; have := HLjn.out; simp [ByteArray.size_append, bs_size, lit_size]; omega)
  go_enter Tryz.func15, Tryz.ntmps15
  go_wp2_with (first
    | (go_at_call 27; (with_reducible refine (digits_ri o _ HMo.out).mono ?_); rintro e w1 ⟨rfl, B⟩; have P := (HP0.out).below B HP0.out.lt; have c1_0 : w1.cell? ⟨w.heap.size, 0, none⟩ = some (.int .i64 2) := P.cell 0; have c1_1 : w1.cell? ⟨w.heap.size, 1, none⟩ = some (.int .i64 o) := P.cell 1; have c1_10 : w1.cell? ⟨w.heap.size, 10, none⟩ = some (.int .i64 jk) := P.cell 10; have c1_11 : w1.cell? ⟨w.heap.size, 11, none⟩ = some (.int .i64 jp) := P.cell 11; have c1_12 : w1.cell? ⟨w.heap.size, 12, none⟩ = some (.int .i64 jn) := P.cell 12; have c1_13 : w1.cell? ⟨w.heap.size, 13, none⟩ = some (.int .i64 n) := P.cell 13; have HP1 := Lib.hid P; have HB1 := Lib.hid ((HB0.out).trans (B.mono (HB0.out).size)); clear P B))
  go_region_held3 (fun w' => w'.cell? ⟨w.heap.size, 11, none⟩ = some (.int .i64 jp) ∧ w'.cell? ⟨w.heap.size, 12, none⟩ = some (.int .i64 jn)) (first | exact ⟨c1_11, c1_12⟩ | exact ⟨c2_11, c2_12⟩ | exact ⟨c3_11, c3_12⟩ | go_keep)
    (first
    | (go_at_call 27; (with_reducible refine (digits_ri jp _ HMjp.out).mono ?_); rintro e w2 ⟨rfl, B⟩; have P := (HP1.out.drew).below B HP1.out.lt; have c2_0 : w2.cell? ⟨w.heap.size, 0, none⟩ = some (.int .i64 2) := P.cell 0; have c2_1 : w2.cell? ⟨w.heap.size, 1, none⟩ = some (.int .i64 o) := P.cell 1; have c2_10 : w2.cell? ⟨w.heap.size, 10, none⟩ = some (.int .i64 jk) := P.cell 10; have c2_11 : w2.cell? ⟨w.heap.size, 11, none⟩ = some (.int .i64 jp) := P.cell 11; have c2_12 : w2.cell? ⟨w.heap.size, 12, none⟩ = some (.int .i64 jn) := P.cell 12; have c2_13 : w2.cell? ⟨w.heap.size, 13, none⟩ = some (.int .i64 n) := P.cell 13; have HP2 := Lib.hid P; have HB2 := Lib.hid ((HB1.out.drew).trans (B.mono (HB1.out.drew).size)); clear P B)
    | (go_at_call 27; (with_reducible refine (digits_ri jn _ HMjn.out).mono ?_); rintro e w3 ⟨rfl, B⟩; have P := (HP2.out).below B HP2.out.lt; have c3_0 : w3.cell? ⟨w.heap.size, 0, none⟩ = some (.int .i64 2) := P.cell 0; have c3_1 : w3.cell? ⟨w.heap.size, 1, none⟩ = some (.int .i64 o) := P.cell 1; have c3_10 : w3.cell? ⟨w.heap.size, 10, none⟩ = some (.int .i64 jk) := P.cell 10; have c3_11 : w3.cell? ⟨w.heap.size, 11, none⟩ = some (.int .i64 jp) := P.cell 11; have c3_12 : w3.cell? ⟨w.heap.size, 12, none⟩ = some (.int .i64 jn) := P.cell 12; have c3_13 : w3.cell? ⟨w.heap.size, 13, none⟩ = some (.int .i64 n) := P.cell 13; have HP3 := Lib.hid P; have HB3 := Lib.hid ((HB2.out).trans (B.mono (HB2.out).size)); clear P B))
  go_wp2_with (first
    | fail)
  go_ret
  exact ⟨congrArg (fun s => Ending.returned (Value.string s)) (bs_eq (by simp [ByteArray.data_append, bs_data, textT])), HB3.out⟩

set_option maxRecDepth 100000 in
set_option maxHeartbeats 4000000 in
theorem rtext_Daemon (w : World) (o c0 c1 c2 c3 c4 c5 c6 c7 jk jp jn n : Int) (ho : may o = true) (hn : may n = true) (hjp : may jp = true) (hjn : may jn = true) :
    Calls Tryz.prog 15 #[.agg #[.int .i64 4, .int .i64 o, .int .i64 c0, .int .i64 c1, .int .i64 c2, .int .i64 c3, .int .i64 c4, .int .i64 c5, .int .i64 c6, .int .i64 c7, .int .i64 jk, .int .i64 jp, .int .i64 jn, .int .i64 n]] w fun e w' => e = .returned (.string (bs (textT ⟨4, o, ⟨c0, c1, c2, c3, c4, c5, c6, c7⟩, jk, jp, jn, n⟩))) ∧ Below w.heap.size w w' := by
  have HLo := Lib.hid (dg_may ho)
  have HMo := Lib.hid ho
  have HLn := Lib.hid (dg_may hn)
  have HMn := Lib.hid hn
  have HLjp := Lib.hid (dg_may hjp)
  have HMjp := Lib.hid hjp
  have HLjn := Lib.hid (dg_may hjn)
  have HMjn := Lib.hid hjn
  clear ho hn hjp hjn
  have B0 : Below w.heap.size w (w.alloc (.cells #[.int .i64 4, .int .i64 o, .int .i64 c0, .int .i64 c1, .int .i64 c2, .int .i64 c3, .int .i64 c4, .int .i64 c5, .int .i64 c6, .int .i64 c7, .int .i64 jk, .int .i64 jp, .int .i64 jn, .int .i64 n] 29)) := (Below.refl _ _).alloc (Nat.le_refl _) _
  have P0 : Blk (w.alloc (.cells #[.int .i64 4, .int .i64 o, .int .i64 c0, .int .i64 c1, .int .i64 c2, .int .i64 c3, .int .i64 c4, .int .i64 c5, .int .i64 c6, .int .i64 c7, .int .i64 jk, .int .i64 jp, .int .i64 jn, .int .i64 n] 29)) w.heap.size 29 #[.int .i64 4, .int .i64 o, .int .i64 c0, .int .i64 c1, .int .i64 c2, .int .i64 c3, .int .i64 c4, .int .i64 c5, .int .i64 c6, .int .i64 c7, .int .i64 jk, .int .i64 jp, .int .i64 jn, .int .i64 n] := Blk.new _ _ _
  have HB0 := Lib.hid B0
  have HP0 := Lib.hid P0
  clear B0 P0
  have sh0 : short (({ data := #[32] } : ByteArray) ++ (bs (dg jp))) = true := short_of (by have := HLo.out; have := HLn.out; have := HLjp.out; have := HLjn.out; simp [ByteArray.size_append, bs_size, lit_size]; omega)
  have sh1 : short ((({ data := #[32] } : ByteArray) ++ (bs (dg jp))) ++ ({ data := #[32] } : ByteArray)) = true := short_of (by have := HLo.out; have := HLn.out; have := HLjp.out; have := HLjn.out; simp [ByteArray.size_append, bs_size, lit_size]; omega)
  have sh2 : short (((({ data := #[32] } : ByteArray) ++ (bs (dg jp))) ++ ({ data := #[32] } : ByteArray)) ++ (bs (dg jn))) = true := short_of (by have := HLo.out; have := HLn.out; have := HLjp.out; have := HLjn.out; simp [ByteArray.size_append, bs_size, lit_size]; omega)
  have sh3 : short (({ data := #[100, 97, 101, 109, 111, 110, 32] } : ByteArray) ++ (bs (dg o))) = true := short_of (by have := HLo.out; have := HLn.out; have := HLjp.out; have := HLjn.out; simp [ByteArray.size_append, bs_size, lit_size]; omega)
  go_enter Tryz.func15, Tryz.ntmps15
  go_wp2_with (first
    | (go_at_call 27; (with_reducible refine (digits_ri o _ HMo.out).mono ?_); rintro e w1 ⟨rfl, B⟩; have P := (HP0.out).below B HP0.out.lt; have c1_0 : w1.cell? ⟨w.heap.size, 0, none⟩ = some (.int .i64 4) := P.cell 0; have c1_1 : w1.cell? ⟨w.heap.size, 1, none⟩ = some (.int .i64 o) := P.cell 1; have c1_10 : w1.cell? ⟨w.heap.size, 10, none⟩ = some (.int .i64 jk) := P.cell 10; have c1_11 : w1.cell? ⟨w.heap.size, 11, none⟩ = some (.int .i64 jp) := P.cell 11; have c1_12 : w1.cell? ⟨w.heap.size, 12, none⟩ = some (.int .i64 jn) := P.cell 12; have c1_13 : w1.cell? ⟨w.heap.size, 13, none⟩ = some (.int .i64 n) := P.cell 13; have HP1 := Lib.hid P; have HB1 := Lib.hid ((HB0.out).trans (B.mono (HB0.out).size)); clear P B))
  go_region_held3 (fun w' => w'.cell? ⟨w.heap.size, 11, none⟩ = some (.int .i64 jp) ∧ w'.cell? ⟨w.heap.size, 12, none⟩ = some (.int .i64 jn)) (first | exact ⟨c1_11, c1_12⟩ | exact ⟨c2_11, c2_12⟩ | exact ⟨c3_11, c3_12⟩ | go_keep)
    (first
    | (go_at_call 27; (with_reducible refine (digits_ri jp _ HMjp.out).mono ?_); rintro e w2 ⟨rfl, B⟩; have P := (HP1.out.drew).below B HP1.out.lt; have c2_0 : w2.cell? ⟨w.heap.size, 0, none⟩ = some (.int .i64 4) := P.cell 0; have c2_1 : w2.cell? ⟨w.heap.size, 1, none⟩ = some (.int .i64 o) := P.cell 1; have c2_10 : w2.cell? ⟨w.heap.size, 10, none⟩ = some (.int .i64 jk) := P.cell 10; have c2_11 : w2.cell? ⟨w.heap.size, 11, none⟩ = some (.int .i64 jp) := P.cell 11; have c2_12 : w2.cell? ⟨w.heap.size, 12, none⟩ = some (.int .i64 jn) := P.cell 12; have c2_13 : w2.cell? ⟨w.heap.size, 13, none⟩ = some (.int .i64 n) := P.cell 13; have HP2 := Lib.hid P; have HB2 := Lib.hid ((HB1.out.drew).trans (B.mono (HB1.out.drew).size)); clear P B)
    | (go_at_call 27; (with_reducible refine (digits_ri jn _ HMjn.out).mono ?_); rintro e w3 ⟨rfl, B⟩; have P := (HP2.out).below B HP2.out.lt; have c3_0 : w3.cell? ⟨w.heap.size, 0, none⟩ = some (.int .i64 4) := P.cell 0; have c3_1 : w3.cell? ⟨w.heap.size, 1, none⟩ = some (.int .i64 o) := P.cell 1; have c3_10 : w3.cell? ⟨w.heap.size, 10, none⟩ = some (.int .i64 jk) := P.cell 10; have c3_11 : w3.cell? ⟨w.heap.size, 11, none⟩ = some (.int .i64 jp) := P.cell 11; have c3_12 : w3.cell? ⟨w.heap.size, 12, none⟩ = some (.int .i64 jn) := P.cell 12; have c3_13 : w3.cell? ⟨w.heap.size, 13, none⟩ = some (.int .i64 n) := P.cell 13; have HP3 := Lib.hid P; have HB3 := Lib.hid ((HB2.out).trans (B.mono (HB2.out).size)); clear P B))
  go_wp2_with (first
    | fail)
  go_ret
  exact ⟨congrArg (fun s => Ending.returned (Value.string s)) (bs_eq (by simp [ByteArray.data_append, bs_data, textT])), HB3.out⟩

set_option maxRecDepth 100000 in
set_option maxHeartbeats 4000000 in
theorem rtext_Evict (w : World) (o c0 c1 c2 c3 c4 c5 c6 c7 jk jp jn n : Int) (ho : may o = true) (hn : may n = true) (hjp : may jp = true) (hjn : may jn = true) :
    Calls Tryz.prog 15 #[.agg #[.int .i64 5, .int .i64 o, .int .i64 c0, .int .i64 c1, .int .i64 c2, .int .i64 c3, .int .i64 c4, .int .i64 c5, .int .i64 c6, .int .i64 c7, .int .i64 jk, .int .i64 jp, .int .i64 jn, .int .i64 n]] w fun e w' => e = .returned (.string (bs (textT ⟨5, o, ⟨c0, c1, c2, c3, c4, c5, c6, c7⟩, jk, jp, jn, n⟩))) ∧ Below w.heap.size w w' := by
  have HLo := Lib.hid (dg_may ho)
  have HMo := Lib.hid ho
  have HLn := Lib.hid (dg_may hn)
  have HMn := Lib.hid hn
  have HLjp := Lib.hid (dg_may hjp)
  have HMjp := Lib.hid hjp
  have HLjn := Lib.hid (dg_may hjn)
  have HMjn := Lib.hid hjn
  clear ho hn hjp hjn
  have B0 : Below w.heap.size w (w.alloc (.cells #[.int .i64 5, .int .i64 o, .int .i64 c0, .int .i64 c1, .int .i64 c2, .int .i64 c3, .int .i64 c4, .int .i64 c5, .int .i64 c6, .int .i64 c7, .int .i64 jk, .int .i64 jp, .int .i64 jn, .int .i64 n] 29)) := (Below.refl _ _).alloc (Nat.le_refl _) _
  have P0 : Blk (w.alloc (.cells #[.int .i64 5, .int .i64 o, .int .i64 c0, .int .i64 c1, .int .i64 c2, .int .i64 c3, .int .i64 c4, .int .i64 c5, .int .i64 c6, .int .i64 c7, .int .i64 jk, .int .i64 jp, .int .i64 jn, .int .i64 n] 29)) w.heap.size 29 #[.int .i64 5, .int .i64 o, .int .i64 c0, .int .i64 c1, .int .i64 c2, .int .i64 c3, .int .i64 c4, .int .i64 c5, .int .i64 c6, .int .i64 c7, .int .i64 jk, .int .i64 jp, .int .i64 jn, .int .i64 n] := Blk.new _ _ _
  have HB0 := Lib.hid B0
  have HP0 := Lib.hid P0
  clear B0 P0
  have sh0 : short (({ data := #[32] } : ByteArray) ++ (bs (dg jp))) = true := short_of (by have := HLo.out; have := HLn.out; have := HLjp.out; have := HLjn.out; simp [ByteArray.size_append, bs_size, lit_size]; omega)
  have sh1 : short ((({ data := #[32] } : ByteArray) ++ (bs (dg jp))) ++ ({ data := #[32] } : ByteArray)) = true := short_of (by have := HLo.out; have := HLn.out; have := HLjp.out; have := HLjn.out; simp [ByteArray.size_append, bs_size, lit_size]; omega)
  have sh2 : short (((({ data := #[32] } : ByteArray) ++ (bs (dg jp))) ++ ({ data := #[32] } : ByteArray)) ++ (bs (dg jn))) = true := short_of (by have := HLo.out; have := HLn.out; have := HLjp.out; have := HLjn.out; simp [ByteArray.size_append, bs_size, lit_size]; omega)
  have sh3 : short (({ data := #[101, 118, 105, 99, 116, 32] } : ByteArray) ++ (bs (dg o))) = true := short_of (by have := HLo.out; have := HLn.out; have := HLjp.out; have := HLjn.out; simp [ByteArray.size_append, bs_size, lit_size]; omega)
  have sh4 : short ((({ data := #[101, 118, 105, 99, 116, 32] } : ByteArray) ++ (bs (dg o))) ++ ({ data := #[32] } : ByteArray)) = true := short_of (by have := HLo.out; have := HLn.out; have := HLjp.out; have := HLjn.out; simp [ByteArray.size_append, bs_size, lit_size]; omega)
  have sh5 : short (((({ data := #[101, 118, 105, 99, 116, 32] } : ByteArray) ++ (bs (dg o))) ++ ({ data := #[32] } : ByteArray)) ++ (bs (dg n))) = true := short_of (by have := HLo.out; have := HLn.out; have := HLjp.out; have := HLjn.out; simp [ByteArray.size_append, bs_size, lit_size]; omega)
  go_enter Tryz.func15, Tryz.ntmps15
  go_wp2_with (first
    | (go_at_call 27; (with_reducible refine (digits_ri o _ HMo.out).mono ?_); rintro e w1 ⟨rfl, B⟩; have P := (HP0.out).below B HP0.out.lt; have c1_0 : w1.cell? ⟨w.heap.size, 0, none⟩ = some (.int .i64 5) := P.cell 0; have c1_1 : w1.cell? ⟨w.heap.size, 1, none⟩ = some (.int .i64 o) := P.cell 1; have c1_10 : w1.cell? ⟨w.heap.size, 10, none⟩ = some (.int .i64 jk) := P.cell 10; have c1_11 : w1.cell? ⟨w.heap.size, 11, none⟩ = some (.int .i64 jp) := P.cell 11; have c1_12 : w1.cell? ⟨w.heap.size, 12, none⟩ = some (.int .i64 jn) := P.cell 12; have c1_13 : w1.cell? ⟨w.heap.size, 13, none⟩ = some (.int .i64 n) := P.cell 13; have HP1 := Lib.hid P; have HB1 := Lib.hid ((HB0.out).trans (B.mono (HB0.out).size)); clear P B))
  go_region_held3 (fun w' => w'.cell? ⟨w.heap.size, 11, none⟩ = some (.int .i64 jp) ∧ w'.cell? ⟨w.heap.size, 12, none⟩ = some (.int .i64 jn)) (first | exact ⟨c1_11, c1_12⟩ | exact ⟨c2_11, c2_12⟩ | exact ⟨c3_11, c3_12⟩ | go_keep)
    (first
    | (go_at_call 27; (with_reducible refine (digits_ri jp _ HMjp.out).mono ?_); rintro e w2 ⟨rfl, B⟩; have P := (HP1.out.drew).below B HP1.out.lt; have c2_0 : w2.cell? ⟨w.heap.size, 0, none⟩ = some (.int .i64 5) := P.cell 0; have c2_1 : w2.cell? ⟨w.heap.size, 1, none⟩ = some (.int .i64 o) := P.cell 1; have c2_10 : w2.cell? ⟨w.heap.size, 10, none⟩ = some (.int .i64 jk) := P.cell 10; have c2_11 : w2.cell? ⟨w.heap.size, 11, none⟩ = some (.int .i64 jp) := P.cell 11; have c2_12 : w2.cell? ⟨w.heap.size, 12, none⟩ = some (.int .i64 jn) := P.cell 12; have c2_13 : w2.cell? ⟨w.heap.size, 13, none⟩ = some (.int .i64 n) := P.cell 13; have HP2 := Lib.hid P; have HB2 := Lib.hid ((HB1.out.drew).trans (B.mono (HB1.out.drew).size)); clear P B)
    | (go_at_call 27; (with_reducible refine (digits_ri jn _ HMjn.out).mono ?_); rintro e w3 ⟨rfl, B⟩; have P := (HP2.out).below B HP2.out.lt; have c3_0 : w3.cell? ⟨w.heap.size, 0, none⟩ = some (.int .i64 5) := P.cell 0; have c3_1 : w3.cell? ⟨w.heap.size, 1, none⟩ = some (.int .i64 o) := P.cell 1; have c3_10 : w3.cell? ⟨w.heap.size, 10, none⟩ = some (.int .i64 jk) := P.cell 10; have c3_11 : w3.cell? ⟨w.heap.size, 11, none⟩ = some (.int .i64 jp) := P.cell 11; have c3_12 : w3.cell? ⟨w.heap.size, 12, none⟩ = some (.int .i64 jn) := P.cell 12; have c3_13 : w3.cell? ⟨w.heap.size, 13, none⟩ = some (.int .i64 n) := P.cell 13; have HP3 := Lib.hid P; have HB3 := Lib.hid ((HB2.out).trans (B.mono (HB2.out).size)); clear P B))
  go_wp2_with (first
    | (go_at_call 27; (with_reducible refine (digits_ri n _ HMn.out).mono ?_); rintro e w4 ⟨rfl, B⟩; have P := (HP3.out).below B HP3.out.lt; have c4_0 : w4.cell? ⟨w.heap.size, 0, none⟩ = some (.int .i64 5) := P.cell 0; have c4_1 : w4.cell? ⟨w.heap.size, 1, none⟩ = some (.int .i64 o) := P.cell 1; have c4_10 : w4.cell? ⟨w.heap.size, 10, none⟩ = some (.int .i64 jk) := P.cell 10; have c4_11 : w4.cell? ⟨w.heap.size, 11, none⟩ = some (.int .i64 jp) := P.cell 11; have c4_12 : w4.cell? ⟨w.heap.size, 12, none⟩ = some (.int .i64 jn) := P.cell 12; have c4_13 : w4.cell? ⟨w.heap.size, 13, none⟩ = some (.int .i64 n) := P.cell 13; have HP4 := Lib.hid P; have HB4 := Lib.hid ((HB3.out).trans (B.mono (HB3.out).size)); clear P B))
  go_ret
  exact ⟨congrArg (fun s => Ending.returned (Value.string s)) (bs_eq (by simp [ByteArray.data_append, bs_data, textT])), HB4.out⟩

set_option maxRecDepth 100000 in
set_option maxHeartbeats 4000000 in
theorem rtext_Rounds (w : World) (o c0 c1 c2 c3 c4 c5 c6 c7 jk jp jn n : Int) (ho : may o = true) (hn : may n = true) (hjp : may jp = true) (hjn : may jn = true) :
    Calls Tryz.prog 15 #[.agg #[.int .i64 6, .int .i64 o, .int .i64 c0, .int .i64 c1, .int .i64 c2, .int .i64 c3, .int .i64 c4, .int .i64 c5, .int .i64 c6, .int .i64 c7, .int .i64 jk, .int .i64 jp, .int .i64 jn, .int .i64 n]] w fun e w' => e = .returned (.string (bs (textT ⟨6, o, ⟨c0, c1, c2, c3, c4, c5, c6, c7⟩, jk, jp, jn, n⟩))) ∧ Below w.heap.size w w' := by
  have HLo := Lib.hid (dg_may ho)
  have HMo := Lib.hid ho
  have HLn := Lib.hid (dg_may hn)
  have HMn := Lib.hid hn
  have HLjp := Lib.hid (dg_may hjp)
  have HMjp := Lib.hid hjp
  have HLjn := Lib.hid (dg_may hjn)
  have HMjn := Lib.hid hjn
  clear ho hn hjp hjn
  have B0 : Below w.heap.size w (w.alloc (.cells #[.int .i64 6, .int .i64 o, .int .i64 c0, .int .i64 c1, .int .i64 c2, .int .i64 c3, .int .i64 c4, .int .i64 c5, .int .i64 c6, .int .i64 c7, .int .i64 jk, .int .i64 jp, .int .i64 jn, .int .i64 n] 29)) := (Below.refl _ _).alloc (Nat.le_refl _) _
  have P0 : Blk (w.alloc (.cells #[.int .i64 6, .int .i64 o, .int .i64 c0, .int .i64 c1, .int .i64 c2, .int .i64 c3, .int .i64 c4, .int .i64 c5, .int .i64 c6, .int .i64 c7, .int .i64 jk, .int .i64 jp, .int .i64 jn, .int .i64 n] 29)) w.heap.size 29 #[.int .i64 6, .int .i64 o, .int .i64 c0, .int .i64 c1, .int .i64 c2, .int .i64 c3, .int .i64 c4, .int .i64 c5, .int .i64 c6, .int .i64 c7, .int .i64 jk, .int .i64 jp, .int .i64 jn, .int .i64 n] := Blk.new _ _ _
  have HB0 := Lib.hid B0
  have HP0 := Lib.hid P0
  clear B0 P0
  have sh0 : short (({ data := #[32] } : ByteArray) ++ (bs (dg jp))) = true := short_of (by have := HLo.out; have := HLn.out; have := HLjp.out; have := HLjn.out; simp [ByteArray.size_append, bs_size, lit_size]; omega)
  have sh1 : short ((({ data := #[32] } : ByteArray) ++ (bs (dg jp))) ++ ({ data := #[32] } : ByteArray)) = true := short_of (by have := HLo.out; have := HLn.out; have := HLjp.out; have := HLjn.out; simp [ByteArray.size_append, bs_size, lit_size]; omega)
  have sh2 : short (((({ data := #[32] } : ByteArray) ++ (bs (dg jp))) ++ ({ data := #[32] } : ByteArray)) ++ (bs (dg jn))) = true := short_of (by have := HLo.out; have := HLn.out; have := HLjp.out; have := HLjn.out; simp [ByteArray.size_append, bs_size, lit_size]; omega)
  have sh3 : short (({ data := #[114, 111, 117, 110, 100, 115, 32] } : ByteArray) ++ (bs (dg n))) = true := short_of (by have := HLo.out; have := HLn.out; have := HLjp.out; have := HLjn.out; simp [ByteArray.size_append, bs_size, lit_size]; omega)
  go_enter Tryz.func15, Tryz.ntmps15
  go_wp2_with (first
    | (go_at_call 27; (with_reducible refine (digits_ri o _ HMo.out).mono ?_); rintro e w1 ⟨rfl, B⟩; have P := (HP0.out).below B HP0.out.lt; have c1_0 : w1.cell? ⟨w.heap.size, 0, none⟩ = some (.int .i64 6) := P.cell 0; have c1_1 : w1.cell? ⟨w.heap.size, 1, none⟩ = some (.int .i64 o) := P.cell 1; have c1_10 : w1.cell? ⟨w.heap.size, 10, none⟩ = some (.int .i64 jk) := P.cell 10; have c1_11 : w1.cell? ⟨w.heap.size, 11, none⟩ = some (.int .i64 jp) := P.cell 11; have c1_12 : w1.cell? ⟨w.heap.size, 12, none⟩ = some (.int .i64 jn) := P.cell 12; have c1_13 : w1.cell? ⟨w.heap.size, 13, none⟩ = some (.int .i64 n) := P.cell 13; have HP1 := Lib.hid P; have HB1 := Lib.hid ((HB0.out).trans (B.mono (HB0.out).size)); clear P B))
  go_region_held3 (fun w' => w'.cell? ⟨w.heap.size, 11, none⟩ = some (.int .i64 jp) ∧ w'.cell? ⟨w.heap.size, 12, none⟩ = some (.int .i64 jn)) (first | exact ⟨c1_11, c1_12⟩ | exact ⟨c2_11, c2_12⟩ | exact ⟨c3_11, c3_12⟩ | go_keep)
    (first
    | (go_at_call 27; (with_reducible refine (digits_ri jp _ HMjp.out).mono ?_); rintro e w2 ⟨rfl, B⟩; have P := (HP1.out.drew).below B HP1.out.lt; have c2_0 : w2.cell? ⟨w.heap.size, 0, none⟩ = some (.int .i64 6) := P.cell 0; have c2_1 : w2.cell? ⟨w.heap.size, 1, none⟩ = some (.int .i64 o) := P.cell 1; have c2_10 : w2.cell? ⟨w.heap.size, 10, none⟩ = some (.int .i64 jk) := P.cell 10; have c2_11 : w2.cell? ⟨w.heap.size, 11, none⟩ = some (.int .i64 jp) := P.cell 11; have c2_12 : w2.cell? ⟨w.heap.size, 12, none⟩ = some (.int .i64 jn) := P.cell 12; have c2_13 : w2.cell? ⟨w.heap.size, 13, none⟩ = some (.int .i64 n) := P.cell 13; have HP2 := Lib.hid P; have HB2 := Lib.hid ((HB1.out.drew).trans (B.mono (HB1.out.drew).size)); clear P B)
    | (go_at_call 27; (with_reducible refine (digits_ri jn _ HMjn.out).mono ?_); rintro e w3 ⟨rfl, B⟩; have P := (HP2.out).below B HP2.out.lt; have c3_0 : w3.cell? ⟨w.heap.size, 0, none⟩ = some (.int .i64 6) := P.cell 0; have c3_1 : w3.cell? ⟨w.heap.size, 1, none⟩ = some (.int .i64 o) := P.cell 1; have c3_10 : w3.cell? ⟨w.heap.size, 10, none⟩ = some (.int .i64 jk) := P.cell 10; have c3_11 : w3.cell? ⟨w.heap.size, 11, none⟩ = some (.int .i64 jp) := P.cell 11; have c3_12 : w3.cell? ⟨w.heap.size, 12, none⟩ = some (.int .i64 jn) := P.cell 12; have c3_13 : w3.cell? ⟨w.heap.size, 13, none⟩ = some (.int .i64 n) := P.cell 13; have HP3 := Lib.hid P; have HB3 := Lib.hid ((HB2.out).trans (B.mono (HB2.out).size)); clear P B))
  go_wp2_with (first
    | (go_at_call 27; (with_reducible refine (digits_ri n _ HMn.out).mono ?_); rintro e w4 ⟨rfl, B⟩; have P := (HP3.out).below B HP3.out.lt; have c4_0 : w4.cell? ⟨w.heap.size, 0, none⟩ = some (.int .i64 6) := P.cell 0; have c4_1 : w4.cell? ⟨w.heap.size, 1, none⟩ = some (.int .i64 o) := P.cell 1; have c4_10 : w4.cell? ⟨w.heap.size, 10, none⟩ = some (.int .i64 jk) := P.cell 10; have c4_11 : w4.cell? ⟨w.heap.size, 11, none⟩ = some (.int .i64 jp) := P.cell 11; have c4_12 : w4.cell? ⟨w.heap.size, 12, none⟩ = some (.int .i64 jn) := P.cell 12; have c4_13 : w4.cell? ⟨w.heap.size, 13, none⟩ = some (.int .i64 n) := P.cell 13; have HP4 := Lib.hid P; have HB4 := Lib.hid ((HB3.out).trans (B.mono (HB3.out).size)); clear P B))
  go_ret
  exact ⟨congrArg (fun s => Ending.returned (Value.string s)) (bs_eq (by simp [ByteArray.data_append, bs_data, textT])), HB4.out⟩

set_option maxRecDepth 100000 in
set_option maxHeartbeats 4000000 in
theorem rtext_Move (w : World) (k o c0 c1 c2 c3 c4 c5 c6 c7 jp jn n : Int) (h1 : k ≠ 1) (h2 : k ≠ 2) (h4 : k ≠ 4) (h5 : k ≠ 5) (h6 : k ≠ 6) (ho : may o = true) (hn : may n = true) (hjp : may jp = true) (hjn : may jn = true) :
    Calls Tryz.prog 15 #[.agg #[.int .i64 k, .int .i64 o, .int .i64 c0, .int .i64 c1, .int .i64 c2, .int .i64 c3, .int .i64 c4, .int .i64 c5, .int .i64 c6, .int .i64 c7, .int .i64 1, .int .i64 jp, .int .i64 jn, .int .i64 n]] w fun e w' => e = .returned (.string (bs (textT ⟨k, o, ⟨c0, c1, c2, c3, c4, c5, c6, c7⟩, 1, jp, jn, n⟩))) ∧ Below w.heap.size w w' := by
  have g1 : (k == 1) = false := by simpa using h1
  have g2 : (k == 2) = false := by simpa using h2
  have g4 : (k == 4) = false := by simpa using h4
  have g5 : (k == 5) = false := by simpa using h5
  have g6 : (k == 6) = false := by simpa using h6
  have HLo := Lib.hid (dg_may ho)
  have HMo := Lib.hid ho
  have HLn := Lib.hid (dg_may hn)
  have HMn := Lib.hid hn
  have HLjp := Lib.hid (dg_may hjp)
  have HMjp := Lib.hid hjp
  have HLjn := Lib.hid (dg_may hjn)
  have HMjn := Lib.hid hjn
  clear ho hn hjp hjn
  have B0 : Below w.heap.size w (w.alloc (.cells #[.int .i64 k, .int .i64 o, .int .i64 c0, .int .i64 c1, .int .i64 c2, .int .i64 c3, .int .i64 c4, .int .i64 c5, .int .i64 c6, .int .i64 c7, .int .i64 1, .int .i64 jp, .int .i64 jn, .int .i64 n] 29)) := (Below.refl _ _).alloc (Nat.le_refl _) _
  have P0 : Blk (w.alloc (.cells #[.int .i64 k, .int .i64 o, .int .i64 c0, .int .i64 c1, .int .i64 c2, .int .i64 c3, .int .i64 c4, .int .i64 c5, .int .i64 c6, .int .i64 c7, .int .i64 1, .int .i64 jp, .int .i64 jn, .int .i64 n] 29)) w.heap.size 29 #[.int .i64 k, .int .i64 o, .int .i64 c0, .int .i64 c1, .int .i64 c2, .int .i64 c3, .int .i64 c4, .int .i64 c5, .int .i64 c6, .int .i64 c7, .int .i64 1, .int .i64 jp, .int .i64 jn, .int .i64 n] := Blk.new _ _ _
  have HB0 := Lib.hid B0
  have HP0 := Lib.hid P0
  clear B0 P0
  have sh0 : short (({ data := #[32] } : ByteArray) ++ (bs (dg jp))) = true := short_of (by have := HLo.out; have := HLn.out; have := HLjp.out; have := HLjn.out; simp [ByteArray.size_append, bs_size, lit_size]; omega)
  have sh1 : short ((({ data := #[32] } : ByteArray) ++ (bs (dg jp))) ++ ({ data := #[32] } : ByteArray)) = true := short_of (by have := HLo.out; have := HLn.out; have := HLjp.out; have := HLjn.out; simp [ByteArray.size_append, bs_size, lit_size]; omega)
  have sh2 : short (((({ data := #[32] } : ByteArray) ++ (bs (dg jp))) ++ ({ data := #[32] } : ByteArray)) ++ (bs (dg jn))) = true := short_of (by have := HLo.out; have := HLn.out; have := HLjp.out; have := HLjn.out; simp [ByteArray.size_append, bs_size, lit_size]; omega)
  have sh3 : short (({ data := #[109, 111, 118, 101, 32] } : ByteArray) ++ (bs (dg o))) = true := short_of (by have := HLo.out; have := HLn.out; have := HLjp.out; have := HLjn.out; simp [ByteArray.size_append, bs_size, lit_size]; omega)
  have sh4 : short ((({ data := #[109, 111, 118, 101, 32] } : ByteArray) ++ (bs (dg o))) ++ (((({ data := #[32] } : ByteArray) ++ (bs (dg jp))) ++ ({ data := #[32] } : ByteArray)) ++ (bs (dg jn)))) = true := short_of (by have := HLo.out; have := HLn.out; have := HLjp.out; have := HLjn.out; simp [ByteArray.size_append, bs_size, lit_size]; omega)
  go_enter Tryz.func15, Tryz.ntmps15
  go_wp2_with (first
    | (go_at_call 27; (with_reducible refine (digits_ri o _ HMo.out).mono ?_); rintro e w1 ⟨rfl, B⟩; have P := (HP0.out).below B HP0.out.lt; have c1_0 : w1.cell? ⟨w.heap.size, 0, none⟩ = some (.int .i64 k) := P.cell 0; have c1_1 : w1.cell? ⟨w.heap.size, 1, none⟩ = some (.int .i64 o) := P.cell 1; have c1_10 : w1.cell? ⟨w.heap.size, 10, none⟩ = some (.int .i64 1) := P.cell 10; have c1_11 : w1.cell? ⟨w.heap.size, 11, none⟩ = some (.int .i64 jp) := P.cell 11; have c1_12 : w1.cell? ⟨w.heap.size, 12, none⟩ = some (.int .i64 jn) := P.cell 12; have c1_13 : w1.cell? ⟨w.heap.size, 13, none⟩ = some (.int .i64 n) := P.cell 13; have HP1 := Lib.hid P; have HB1 := Lib.hid ((HB0.out).trans (B.mono (HB0.out).size)); clear P B))
  go_region_held3 (fun w' => w'.cell? ⟨w.heap.size, 11, none⟩ = some (.int .i64 jp) ∧ w'.cell? ⟨w.heap.size, 12, none⟩ = some (.int .i64 jn)) (first | exact ⟨c1_11, c1_12⟩ | exact ⟨c2_11, c2_12⟩ | exact ⟨c3_11, c3_12⟩ | go_keep)
    (first
    | (go_at_call 27; (with_reducible refine (digits_ri jp _ HMjp.out).mono ?_); rintro e w2 ⟨rfl, B⟩; have P := (HP1.out.drew).below B HP1.out.lt; have c2_0 : w2.cell? ⟨w.heap.size, 0, none⟩ = some (.int .i64 k) := P.cell 0; have c2_1 : w2.cell? ⟨w.heap.size, 1, none⟩ = some (.int .i64 o) := P.cell 1; have c2_10 : w2.cell? ⟨w.heap.size, 10, none⟩ = some (.int .i64 1) := P.cell 10; have c2_11 : w2.cell? ⟨w.heap.size, 11, none⟩ = some (.int .i64 jp) := P.cell 11; have c2_12 : w2.cell? ⟨w.heap.size, 12, none⟩ = some (.int .i64 jn) := P.cell 12; have c2_13 : w2.cell? ⟨w.heap.size, 13, none⟩ = some (.int .i64 n) := P.cell 13; have HP2 := Lib.hid P; have HB2 := Lib.hid ((HB1.out.drew).trans (B.mono (HB1.out.drew).size)); clear P B)
    | (go_at_call 27; (with_reducible refine (digits_ri jn _ HMjn.out).mono ?_); rintro e w3 ⟨rfl, B⟩; have P := (HP2.out).below B HP2.out.lt; have c3_0 : w3.cell? ⟨w.heap.size, 0, none⟩ = some (.int .i64 k) := P.cell 0; have c3_1 : w3.cell? ⟨w.heap.size, 1, none⟩ = some (.int .i64 o) := P.cell 1; have c3_10 : w3.cell? ⟨w.heap.size, 10, none⟩ = some (.int .i64 1) := P.cell 10; have c3_11 : w3.cell? ⟨w.heap.size, 11, none⟩ = some (.int .i64 jp) := P.cell 11; have c3_12 : w3.cell? ⟨w.heap.size, 12, none⟩ = some (.int .i64 jn) := P.cell 12; have c3_13 : w3.cell? ⟨w.heap.size, 13, none⟩ = some (.int .i64 n) := P.cell 13; have HP3 := Lib.hid P; have HB3 := Lib.hid ((HB2.out).trans (B.mono (HB2.out).size)); clear P B))
  go_wp2_with (first
    | fail)
  go_ret
  exact ⟨congrArg (fun s => Ending.returned (Value.string s)) (bs_eq (by simp [ByteArray.data_append, bs_data, textT, toT, h1, h2, h4, h5, h6])), HB3.out⟩

set_option maxRecDepth 100000 in
set_option maxHeartbeats 4000000 in
theorem rtext_Split (w : World) (k o c0 c1 c2 c3 c4 c5 c6 c7 jp jn n : Int) (h1 : k ≠ 1) (h2 : k ≠ 2) (h4 : k ≠ 4) (h5 : k ≠ 5) (h6 : k ≠ 6) (ho : may o = true) (hn : may n = true) (hjp : may jp = true) (hjn : may jn = true) :
    Calls Tryz.prog 15 #[.agg #[.int .i64 k, .int .i64 o, .int .i64 c0, .int .i64 c1, .int .i64 c2, .int .i64 c3, .int .i64 c4, .int .i64 c5, .int .i64 c6, .int .i64 c7, .int .i64 2, .int .i64 jp, .int .i64 jn, .int .i64 n]] w fun e w' => e = .returned (.string (bs (textT ⟨k, o, ⟨c0, c1, c2, c3, c4, c5, c6, c7⟩, 2, jp, jn, n⟩))) ∧ Below w.heap.size w w' := by
  have g1 : (k == 1) = false := by simpa using h1
  have g2 : (k == 2) = false := by simpa using h2
  have g4 : (k == 4) = false := by simpa using h4
  have g5 : (k == 5) = false := by simpa using h5
  have g6 : (k == 6) = false := by simpa using h6
  have HLo := Lib.hid (dg_may ho)
  have HMo := Lib.hid ho
  have HLn := Lib.hid (dg_may hn)
  have HMn := Lib.hid hn
  have HLjp := Lib.hid (dg_may hjp)
  have HMjp := Lib.hid hjp
  have HLjn := Lib.hid (dg_may hjn)
  have HMjn := Lib.hid hjn
  clear ho hn hjp hjn
  have B0 : Below w.heap.size w (w.alloc (.cells #[.int .i64 k, .int .i64 o, .int .i64 c0, .int .i64 c1, .int .i64 c2, .int .i64 c3, .int .i64 c4, .int .i64 c5, .int .i64 c6, .int .i64 c7, .int .i64 2, .int .i64 jp, .int .i64 jn, .int .i64 n] 29)) := (Below.refl _ _).alloc (Nat.le_refl _) _
  have P0 : Blk (w.alloc (.cells #[.int .i64 k, .int .i64 o, .int .i64 c0, .int .i64 c1, .int .i64 c2, .int .i64 c3, .int .i64 c4, .int .i64 c5, .int .i64 c6, .int .i64 c7, .int .i64 2, .int .i64 jp, .int .i64 jn, .int .i64 n] 29)) w.heap.size 29 #[.int .i64 k, .int .i64 o, .int .i64 c0, .int .i64 c1, .int .i64 c2, .int .i64 c3, .int .i64 c4, .int .i64 c5, .int .i64 c6, .int .i64 c7, .int .i64 2, .int .i64 jp, .int .i64 jn, .int .i64 n] := Blk.new _ _ _
  have HB0 := Lib.hid B0
  have HP0 := Lib.hid P0
  clear B0 P0
  have sh0 : short (({ data := #[32] } : ByteArray) ++ (bs (dg jp))) = true := short_of (by have := HLo.out; have := HLn.out; have := HLjp.out; have := HLjn.out; simp [ByteArray.size_append, bs_size, lit_size]; omega)
  have sh1 : short ((({ data := #[32] } : ByteArray) ++ (bs (dg jp))) ++ ({ data := #[32] } : ByteArray)) = true := short_of (by have := HLo.out; have := HLn.out; have := HLjp.out; have := HLjn.out; simp [ByteArray.size_append, bs_size, lit_size]; omega)
  have sh2 : short (((({ data := #[32] } : ByteArray) ++ (bs (dg jp))) ++ ({ data := #[32] } : ByteArray)) ++ (bs (dg jn))) = true := short_of (by have := HLo.out; have := HLn.out; have := HLjp.out; have := HLjn.out; simp [ByteArray.size_append, bs_size, lit_size]; omega)
  have sh3 : short (({ data := #[115, 112, 108, 105, 116, 32] } : ByteArray) ++ (bs (dg o))) = true := short_of (by have := HLo.out; have := HLn.out; have := HLjp.out; have := HLjn.out; simp [ByteArray.size_append, bs_size, lit_size]; omega)
  have sh4 : short ((({ data := #[115, 112, 108, 105, 116, 32] } : ByteArray) ++ (bs (dg o))) ++ ({ data := #[32] } : ByteArray)) = true := short_of (by have := HLo.out; have := HLn.out; have := HLjp.out; have := HLjn.out; simp [ByteArray.size_append, bs_size, lit_size]; omega)
  have sh5 : short (((({ data := #[115, 112, 108, 105, 116, 32] } : ByteArray) ++ (bs (dg o))) ++ ({ data := #[32] } : ByteArray)) ++ (bs (dg jp))) = true := short_of (by have := HLo.out; have := HLn.out; have := HLjp.out; have := HLjn.out; simp [ByteArray.size_append, bs_size, lit_size]; omega)
  go_enter Tryz.func15, Tryz.ntmps15
  go_wp2_with (first
    | (go_at_call 27; (with_reducible refine (digits_ri o _ HMo.out).mono ?_); rintro e w1 ⟨rfl, B⟩; have P := (HP0.out).below B HP0.out.lt; have c1_0 : w1.cell? ⟨w.heap.size, 0, none⟩ = some (.int .i64 k) := P.cell 0; have c1_1 : w1.cell? ⟨w.heap.size, 1, none⟩ = some (.int .i64 o) := P.cell 1; have c1_10 : w1.cell? ⟨w.heap.size, 10, none⟩ = some (.int .i64 2) := P.cell 10; have c1_11 : w1.cell? ⟨w.heap.size, 11, none⟩ = some (.int .i64 jp) := P.cell 11; have c1_12 : w1.cell? ⟨w.heap.size, 12, none⟩ = some (.int .i64 jn) := P.cell 12; have c1_13 : w1.cell? ⟨w.heap.size, 13, none⟩ = some (.int .i64 n) := P.cell 13; have HP1 := Lib.hid P; have HB1 := Lib.hid ((HB0.out).trans (B.mono (HB0.out).size)); clear P B))
  go_region_held3 (fun w' => w'.cell? ⟨w.heap.size, 11, none⟩ = some (.int .i64 jp) ∧ w'.cell? ⟨w.heap.size, 12, none⟩ = some (.int .i64 jn)) (first | exact ⟨c1_11, c1_12⟩ | exact ⟨c2_11, c2_12⟩ | exact ⟨c3_11, c3_12⟩ | go_keep)
    (first
    | (go_at_call 27; (with_reducible refine (digits_ri jp _ HMjp.out).mono ?_); rintro e w2 ⟨rfl, B⟩; have P := (HP1.out.drew).below B HP1.out.lt; have c2_0 : w2.cell? ⟨w.heap.size, 0, none⟩ = some (.int .i64 k) := P.cell 0; have c2_1 : w2.cell? ⟨w.heap.size, 1, none⟩ = some (.int .i64 o) := P.cell 1; have c2_10 : w2.cell? ⟨w.heap.size, 10, none⟩ = some (.int .i64 2) := P.cell 10; have c2_11 : w2.cell? ⟨w.heap.size, 11, none⟩ = some (.int .i64 jp) := P.cell 11; have c2_12 : w2.cell? ⟨w.heap.size, 12, none⟩ = some (.int .i64 jn) := P.cell 12; have c2_13 : w2.cell? ⟨w.heap.size, 13, none⟩ = some (.int .i64 n) := P.cell 13; have HP2 := Lib.hid P; have HB2 := Lib.hid ((HB1.out.drew).trans (B.mono (HB1.out.drew).size)); clear P B)
    | (go_at_call 27; (with_reducible refine (digits_ri jn _ HMjn.out).mono ?_); rintro e w3 ⟨rfl, B⟩; have P := (HP2.out).below B HP2.out.lt; have c3_0 : w3.cell? ⟨w.heap.size, 0, none⟩ = some (.int .i64 k) := P.cell 0; have c3_1 : w3.cell? ⟨w.heap.size, 1, none⟩ = some (.int .i64 o) := P.cell 1; have c3_10 : w3.cell? ⟨w.heap.size, 10, none⟩ = some (.int .i64 2) := P.cell 10; have c3_11 : w3.cell? ⟨w.heap.size, 11, none⟩ = some (.int .i64 jp) := P.cell 11; have c3_12 : w3.cell? ⟨w.heap.size, 12, none⟩ = some (.int .i64 jn) := P.cell 12; have c3_13 : w3.cell? ⟨w.heap.size, 13, none⟩ = some (.int .i64 n) := P.cell 13; have HP3 := Lib.hid P; have HB3 := Lib.hid ((HB2.out).trans (B.mono (HB2.out).size)); clear P B))
  go_wp2_with (first
    | (go_at_call 27; (with_reducible refine (digits_ri jp _ HMjp.out).mono ?_); rintro e w4 ⟨rfl, B⟩; have P := (HP3.out).below B HP3.out.lt; have c4_0 : w4.cell? ⟨w.heap.size, 0, none⟩ = some (.int .i64 k) := P.cell 0; have c4_1 : w4.cell? ⟨w.heap.size, 1, none⟩ = some (.int .i64 o) := P.cell 1; have c4_10 : w4.cell? ⟨w.heap.size, 10, none⟩ = some (.int .i64 2) := P.cell 10; have c4_11 : w4.cell? ⟨w.heap.size, 11, none⟩ = some (.int .i64 jp) := P.cell 11; have c4_12 : w4.cell? ⟨w.heap.size, 12, none⟩ = some (.int .i64 jn) := P.cell 12; have c4_13 : w4.cell? ⟨w.heap.size, 13, none⟩ = some (.int .i64 n) := P.cell 13; have HP4 := Lib.hid P; have HB4 := Lib.hid ((HB3.out).trans (B.mono (HB3.out).size)); clear P B))
  go_ret
  exact ⟨congrArg (fun s => Ending.returned (Value.string s)) (bs_eq (by simp [ByteArray.data_append, bs_data, textT, h1, h2, h4, h5, h6])), HB4.out⟩

set_option maxRecDepth 100000 in
set_option maxHeartbeats 4000000 in
theorem rtext_Join (w : World) (k o c0 c1 c2 c3 c4 c5 c6 c7 jp jn n : Int) (h1 : k ≠ 1) (h2 : k ≠ 2) (h4 : k ≠ 4) (h5 : k ≠ 5) (h6 : k ≠ 6) (ho : may o = true) (hn : may n = true) (hjp : may jp = true) (hjn : may jn = true) :
    Calls Tryz.prog 15 #[.agg #[.int .i64 k, .int .i64 o, .int .i64 c0, .int .i64 c1, .int .i64 c2, .int .i64 c3, .int .i64 c4, .int .i64 c5, .int .i64 c6, .int .i64 c7, .int .i64 3, .int .i64 jp, .int .i64 jn, .int .i64 n]] w fun e w' => e = .returned (.string (bs (textT ⟨k, o, ⟨c0, c1, c2, c3, c4, c5, c6, c7⟩, 3, jp, jn, n⟩))) ∧ Below w.heap.size w w' := by
  have g1 : (k == 1) = false := by simpa using h1
  have g2 : (k == 2) = false := by simpa using h2
  have g4 : (k == 4) = false := by simpa using h4
  have g5 : (k == 5) = false := by simpa using h5
  have g6 : (k == 6) = false := by simpa using h6
  have HLo := Lib.hid (dg_may ho)
  have HMo := Lib.hid ho
  have HLn := Lib.hid (dg_may hn)
  have HMn := Lib.hid hn
  have HLjp := Lib.hid (dg_may hjp)
  have HMjp := Lib.hid hjp
  have HLjn := Lib.hid (dg_may hjn)
  have HMjn := Lib.hid hjn
  clear ho hn hjp hjn
  have B0 : Below w.heap.size w (w.alloc (.cells #[.int .i64 k, .int .i64 o, .int .i64 c0, .int .i64 c1, .int .i64 c2, .int .i64 c3, .int .i64 c4, .int .i64 c5, .int .i64 c6, .int .i64 c7, .int .i64 3, .int .i64 jp, .int .i64 jn, .int .i64 n] 29)) := (Below.refl _ _).alloc (Nat.le_refl _) _
  have P0 : Blk (w.alloc (.cells #[.int .i64 k, .int .i64 o, .int .i64 c0, .int .i64 c1, .int .i64 c2, .int .i64 c3, .int .i64 c4, .int .i64 c5, .int .i64 c6, .int .i64 c7, .int .i64 3, .int .i64 jp, .int .i64 jn, .int .i64 n] 29)) w.heap.size 29 #[.int .i64 k, .int .i64 o, .int .i64 c0, .int .i64 c1, .int .i64 c2, .int .i64 c3, .int .i64 c4, .int .i64 c5, .int .i64 c6, .int .i64 c7, .int .i64 3, .int .i64 jp, .int .i64 jn, .int .i64 n] := Blk.new _ _ _
  have HB0 := Lib.hid B0
  have HP0 := Lib.hid P0
  clear B0 P0
  have sh0 : short (({ data := #[32] } : ByteArray) ++ (bs (dg jp))) = true := short_of (by have := HLo.out; have := HLn.out; have := HLjp.out; have := HLjn.out; simp [ByteArray.size_append, bs_size, lit_size]; omega)
  have sh1 : short ((({ data := #[32] } : ByteArray) ++ (bs (dg jp))) ++ ({ data := #[32] } : ByteArray)) = true := short_of (by have := HLo.out; have := HLn.out; have := HLjp.out; have := HLjn.out; simp [ByteArray.size_append, bs_size, lit_size]; omega)
  have sh2 : short (((({ data := #[32] } : ByteArray) ++ (bs (dg jp))) ++ ({ data := #[32] } : ByteArray)) ++ (bs (dg jn))) = true := short_of (by have := HLo.out; have := HLn.out; have := HLjp.out; have := HLjn.out; simp [ByteArray.size_append, bs_size, lit_size]; omega)
  have sh3 : short (({ data := #[106, 111, 105, 110, 32] } : ByteArray) ++ (bs (dg o))) = true := short_of (by have := HLo.out; have := HLn.out; have := HLjp.out; have := HLjn.out; simp [ByteArray.size_append, bs_size, lit_size]; omega)
  have sh4 : short ((({ data := #[106, 111, 105, 110, 32] } : ByteArray) ++ (bs (dg o))) ++ (((({ data := #[32] } : ByteArray) ++ (bs (dg jp))) ++ ({ data := #[32] } : ByteArray)) ++ (bs (dg jn)))) = true := short_of (by have := HLo.out; have := HLn.out; have := HLjp.out; have := HLjn.out; simp [ByteArray.size_append, bs_size, lit_size]; omega)
  go_enter Tryz.func15, Tryz.ntmps15
  go_wp2_with (first
    | (go_at_call 27; (with_reducible refine (digits_ri o _ HMo.out).mono ?_); rintro e w1 ⟨rfl, B⟩; have P := (HP0.out).below B HP0.out.lt; have c1_0 : w1.cell? ⟨w.heap.size, 0, none⟩ = some (.int .i64 k) := P.cell 0; have c1_1 : w1.cell? ⟨w.heap.size, 1, none⟩ = some (.int .i64 o) := P.cell 1; have c1_10 : w1.cell? ⟨w.heap.size, 10, none⟩ = some (.int .i64 3) := P.cell 10; have c1_11 : w1.cell? ⟨w.heap.size, 11, none⟩ = some (.int .i64 jp) := P.cell 11; have c1_12 : w1.cell? ⟨w.heap.size, 12, none⟩ = some (.int .i64 jn) := P.cell 12; have c1_13 : w1.cell? ⟨w.heap.size, 13, none⟩ = some (.int .i64 n) := P.cell 13; have HP1 := Lib.hid P; have HB1 := Lib.hid ((HB0.out).trans (B.mono (HB0.out).size)); clear P B))
  go_region_held3 (fun w' => w'.cell? ⟨w.heap.size, 11, none⟩ = some (.int .i64 jp) ∧ w'.cell? ⟨w.heap.size, 12, none⟩ = some (.int .i64 jn)) (first | exact ⟨c1_11, c1_12⟩ | exact ⟨c2_11, c2_12⟩ | exact ⟨c3_11, c3_12⟩ | go_keep)
    (first
    | (go_at_call 27; (with_reducible refine (digits_ri jp _ HMjp.out).mono ?_); rintro e w2 ⟨rfl, B⟩; have P := (HP1.out.drew).below B HP1.out.lt; have c2_0 : w2.cell? ⟨w.heap.size, 0, none⟩ = some (.int .i64 k) := P.cell 0; have c2_1 : w2.cell? ⟨w.heap.size, 1, none⟩ = some (.int .i64 o) := P.cell 1; have c2_10 : w2.cell? ⟨w.heap.size, 10, none⟩ = some (.int .i64 3) := P.cell 10; have c2_11 : w2.cell? ⟨w.heap.size, 11, none⟩ = some (.int .i64 jp) := P.cell 11; have c2_12 : w2.cell? ⟨w.heap.size, 12, none⟩ = some (.int .i64 jn) := P.cell 12; have c2_13 : w2.cell? ⟨w.heap.size, 13, none⟩ = some (.int .i64 n) := P.cell 13; have HP2 := Lib.hid P; have HB2 := Lib.hid ((HB1.out.drew).trans (B.mono (HB1.out.drew).size)); clear P B)
    | (go_at_call 27; (with_reducible refine (digits_ri jn _ HMjn.out).mono ?_); rintro e w3 ⟨rfl, B⟩; have P := (HP2.out).below B HP2.out.lt; have c3_0 : w3.cell? ⟨w.heap.size, 0, none⟩ = some (.int .i64 k) := P.cell 0; have c3_1 : w3.cell? ⟨w.heap.size, 1, none⟩ = some (.int .i64 o) := P.cell 1; have c3_10 : w3.cell? ⟨w.heap.size, 10, none⟩ = some (.int .i64 3) := P.cell 10; have c3_11 : w3.cell? ⟨w.heap.size, 11, none⟩ = some (.int .i64 jp) := P.cell 11; have c3_12 : w3.cell? ⟨w.heap.size, 12, none⟩ = some (.int .i64 jn) := P.cell 12; have c3_13 : w3.cell? ⟨w.heap.size, 13, none⟩ = some (.int .i64 n) := P.cell 13; have HP3 := Lib.hid P; have HB3 := Lib.hid ((HB2.out).trans (B.mono (HB2.out).size)); clear P B))
  go_wp2_with (first
    | fail)
  go_ret
  exact ⟨congrArg (fun s => Ending.returned (Value.string s)) (bs_eq (by simp [ByteArray.data_append, bs_data, textT, toT, h1, h2, h4, h5, h6])), HB3.out⟩

set_option maxRecDepth 100000 in
set_option maxHeartbeats 4000000 in
theorem rtext_Copy (w : World) (k o c0 c1 c2 c3 c4 c5 c6 c7 jk jp jn n : Int) (h1 : k ≠ 1) (h2 : k ≠ 2) (h4 : k ≠ 4) (h5 : k ≠ 5) (h6 : k ≠ 6) (j1 : jk ≠ 1) (j2 : jk ≠ 2) (j3 : jk ≠ 3) (ho : may o = true) (hn : may n = true) (hjp : may jp = true) (hjn : may jn = true) :
    Calls Tryz.prog 15 #[.agg #[.int .i64 k, .int .i64 o, .int .i64 c0, .int .i64 c1, .int .i64 c2, .int .i64 c3, .int .i64 c4, .int .i64 c5, .int .i64 c6, .int .i64 c7, .int .i64 jk, .int .i64 jp, .int .i64 jn, .int .i64 n]] w fun e w' => e = .returned (.string (bs (textT ⟨k, o, ⟨c0, c1, c2, c3, c4, c5, c6, c7⟩, jk, jp, jn, n⟩))) ∧ Below w.heap.size w w' := by
  have g1 : (k == 1) = false := by simpa using h1
  have g2 : (k == 2) = false := by simpa using h2
  have g4 : (k == 4) = false := by simpa using h4
  have g5 : (k == 5) = false := by simpa using h5
  have g6 : (k == 6) = false := by simpa using h6
  have f1 : (jk == 1) = false := by simpa using j1
  have f2 : (jk == 2) = false := by simpa using j2
  have f3 : (jk == 3) = false := by simpa using j3
  have HLo := Lib.hid (dg_may ho)
  have HMo := Lib.hid ho
  have HLn := Lib.hid (dg_may hn)
  have HMn := Lib.hid hn
  have HLjp := Lib.hid (dg_may hjp)
  have HMjp := Lib.hid hjp
  have HLjn := Lib.hid (dg_may hjn)
  have HMjn := Lib.hid hjn
  clear ho hn hjp hjn
  have B0 : Below w.heap.size w (w.alloc (.cells #[.int .i64 k, .int .i64 o, .int .i64 c0, .int .i64 c1, .int .i64 c2, .int .i64 c3, .int .i64 c4, .int .i64 c5, .int .i64 c6, .int .i64 c7, .int .i64 jk, .int .i64 jp, .int .i64 jn, .int .i64 n] 29)) := (Below.refl _ _).alloc (Nat.le_refl _) _
  have P0 : Blk (w.alloc (.cells #[.int .i64 k, .int .i64 o, .int .i64 c0, .int .i64 c1, .int .i64 c2, .int .i64 c3, .int .i64 c4, .int .i64 c5, .int .i64 c6, .int .i64 c7, .int .i64 jk, .int .i64 jp, .int .i64 jn, .int .i64 n] 29)) w.heap.size 29 #[.int .i64 k, .int .i64 o, .int .i64 c0, .int .i64 c1, .int .i64 c2, .int .i64 c3, .int .i64 c4, .int .i64 c5, .int .i64 c6, .int .i64 c7, .int .i64 jk, .int .i64 jp, .int .i64 jn, .int .i64 n] := Blk.new _ _ _
  have HB0 := Lib.hid B0
  have HP0 := Lib.hid P0
  clear B0 P0
  have sh0 : short (({ data := #[32] } : ByteArray) ++ (bs (dg jp))) = true := short_of (by have := HLo.out; have := HLn.out; have := HLjp.out; have := HLjn.out; simp [ByteArray.size_append, bs_size, lit_size]; omega)
  have sh1 : short ((({ data := #[32] } : ByteArray) ++ (bs (dg jp))) ++ ({ data := #[32] } : ByteArray)) = true := short_of (by have := HLo.out; have := HLn.out; have := HLjp.out; have := HLjn.out; simp [ByteArray.size_append, bs_size, lit_size]; omega)
  have sh2 : short (((({ data := #[32] } : ByteArray) ++ (bs (dg jp))) ++ ({ data := #[32] } : ByteArray)) ++ (bs (dg jn))) = true := short_of (by have := HLo.out; have := HLn.out; have := HLjp.out; have := HLjn.out; simp [ByteArray.size_append, bs_size, lit_size]; omega)
  have sh3 : short (({ data := #[99, 111, 112, 121, 32] } : ByteArray) ++ (bs (dg o))) = true := short_of (by have := HLo.out; have := HLn.out; have := HLjp.out; have := HLjn.out; simp [ByteArray.size_append, bs_size, lit_size]; omega)
  have sh4 : short ((({ data := #[99, 111, 112, 121, 32] } : ByteArray) ++ (bs (dg o))) ++ (((({ data := #[32] } : ByteArray) ++ (bs (dg jp))) ++ ({ data := #[32] } : ByteArray)) ++ (bs (dg jn)))) = true := short_of (by have := HLo.out; have := HLn.out; have := HLjp.out; have := HLjn.out; simp [ByteArray.size_append, bs_size, lit_size]; omega)
  go_enter Tryz.func15, Tryz.ntmps15
  go_wp2_with (first
    | (go_at_call 27; (with_reducible refine (digits_ri o _ HMo.out).mono ?_); rintro e w1 ⟨rfl, B⟩; have P := (HP0.out).below B HP0.out.lt; have c1_0 : w1.cell? ⟨w.heap.size, 0, none⟩ = some (.int .i64 k) := P.cell 0; have c1_1 : w1.cell? ⟨w.heap.size, 1, none⟩ = some (.int .i64 o) := P.cell 1; have c1_10 : w1.cell? ⟨w.heap.size, 10, none⟩ = some (.int .i64 jk) := P.cell 10; have c1_11 : w1.cell? ⟨w.heap.size, 11, none⟩ = some (.int .i64 jp) := P.cell 11; have c1_12 : w1.cell? ⟨w.heap.size, 12, none⟩ = some (.int .i64 jn) := P.cell 12; have c1_13 : w1.cell? ⟨w.heap.size, 13, none⟩ = some (.int .i64 n) := P.cell 13; have HP1 := Lib.hid P; have HB1 := Lib.hid ((HB0.out).trans (B.mono (HB0.out).size)); clear P B))
  go_region_held3 (fun w' => w'.cell? ⟨w.heap.size, 11, none⟩ = some (.int .i64 jp) ∧ w'.cell? ⟨w.heap.size, 12, none⟩ = some (.int .i64 jn)) (first | exact ⟨c1_11, c1_12⟩ | exact ⟨c2_11, c2_12⟩ | exact ⟨c3_11, c3_12⟩ | go_keep)
    (first
    | (go_at_call 27; (with_reducible refine (digits_ri jp _ HMjp.out).mono ?_); rintro e w2 ⟨rfl, B⟩; have P := (HP1.out.drew).below B HP1.out.lt; have c2_0 : w2.cell? ⟨w.heap.size, 0, none⟩ = some (.int .i64 k) := P.cell 0; have c2_1 : w2.cell? ⟨w.heap.size, 1, none⟩ = some (.int .i64 o) := P.cell 1; have c2_10 : w2.cell? ⟨w.heap.size, 10, none⟩ = some (.int .i64 jk) := P.cell 10; have c2_11 : w2.cell? ⟨w.heap.size, 11, none⟩ = some (.int .i64 jp) := P.cell 11; have c2_12 : w2.cell? ⟨w.heap.size, 12, none⟩ = some (.int .i64 jn) := P.cell 12; have c2_13 : w2.cell? ⟨w.heap.size, 13, none⟩ = some (.int .i64 n) := P.cell 13; have HP2 := Lib.hid P; have HB2 := Lib.hid ((HB1.out.drew).trans (B.mono (HB1.out.drew).size)); clear P B)
    | (go_at_call 27; (with_reducible refine (digits_ri jn _ HMjn.out).mono ?_); rintro e w3 ⟨rfl, B⟩; have P := (HP2.out).below B HP2.out.lt; have c3_0 : w3.cell? ⟨w.heap.size, 0, none⟩ = some (.int .i64 k) := P.cell 0; have c3_1 : w3.cell? ⟨w.heap.size, 1, none⟩ = some (.int .i64 o) := P.cell 1; have c3_10 : w3.cell? ⟨w.heap.size, 10, none⟩ = some (.int .i64 jk) := P.cell 10; have c3_11 : w3.cell? ⟨w.heap.size, 11, none⟩ = some (.int .i64 jp) := P.cell 11; have c3_12 : w3.cell? ⟨w.heap.size, 12, none⟩ = some (.int .i64 jn) := P.cell 12; have c3_13 : w3.cell? ⟨w.heap.size, 13, none⟩ = some (.int .i64 n) := P.cell 13; have HP3 := Lib.hid P; have HB3 := Lib.hid ((HB2.out).trans (B.mono (HB2.out).size)); clear P B))
  go_wp2_with (first
    | fail)
  go_ret
  exact ⟨congrArg (fun s => Ending.returned (Value.string s)) (bs_eq (by simp [ByteArray.data_append, bs_data, textT, toT, h1, h2, h4, h5, h6, j1, j2, j3])), HB3.out⟩

theorem text_r (w : World) (x : Itm) (hm : mayI x = true) : Calls Tryz.prog 15 #[.agg x.arr] w fun e w' => e = .returned (.string (bs (textT x))) ∧ Below w.heap.size w w' := by
  obtain ⟨k, o, ⟨c0, c1, c2, c3, c4, c5, c6, c7⟩, jk, jp, jn, n⟩ := x
  have e : Itm.arr ⟨k, o, ⟨c0, c1, c2, c3, c4, c5, c6, c7⟩, jk, jp, jn, n⟩ = #[.int .i64 k, .int .i64 o, .int .i64 c0, .int .i64 c1, .int .i64 c2, .int .i64 c3, .int .i64 c4, .int .i64 c5, .int .i64 c6, .int .i64 c7, .int .i64 jk, .int .i64 jp, .int .i64 jn, .int .i64 n] := rfl
  rw [e]
  simp only [mayI, Bool.and_eq_true] at hm
  obtain ⟨⟨⟨⟨⟨⟨⟨⟨ho, hn⟩, hc1⟩, hc2⟩, hc6⟩, hc7⟩, hc5⟩, hjp⟩, hjn⟩ := hm
  by_cases h1 : k = 1
  · subst h1; exact rtext_call w o c0 c1 c2 c3 c4 c5 c6 c7 jk jp jn n ⟨hc1, hc2, hc5, hc6, hc7⟩ ho hn hjp hjn
  · by_cases h2 : k = 2
    · subst h2; exact rtext_Core w o c0 c1 c2 c3 c4 c5 c6 c7 jk jp jn n ho hn hjp hjn
    · by_cases h4 : k = 4
      · subst h4; exact rtext_Daemon w o c0 c1 c2 c3 c4 c5 c6 c7 jk jp jn n ho hn hjp hjn
      · by_cases h5 : k = 5
        · subst h5; exact rtext_Evict w o c0 c1 c2 c3 c4 c5 c6 c7 jk jp jn n ho hn hjp hjn
        · by_cases h6 : k = 6
          · subst h6; exact rtext_Rounds w o c0 c1 c2 c3 c4 c5 c6 c7 jk jp jn n ho hn hjp hjn
          · by_cases j1 : jk = 1
            · subst j1; exact rtext_Move w k o c0 c1 c2 c3 c4 c5 c6 c7 jp jn n h1 h2 h4 h5 h6 ho hn hjp hjn
            · by_cases j2 : jk = 2
              · subst j2; exact rtext_Split w k o c0 c1 c2 c3 c4 c5 c6 c7 jp jn n h1 h2 h4 h5 h6 ho hn hjp hjn
              · by_cases j3 : jk = 3
                · subst j3; exact rtext_Join w k o c0 c1 c2 c3 c4 c5 c6 c7 jp jn n h1 h2 h4 h5 h6 ho hn hjp hjn
                · exact rtext_Copy w k o c0 c1 c2 c3 c4 c5 c6 c7 jk jp jn n h1 h2 h4 h5 h6 j1 j2 j3 ho hn hjp hjn
theorem textT_len (x : Itm) (hm : mayI x = true) : (textT x).length ≤ 300 := by
  simp only [mayI, Bool.and_eq_true] at hm
  obtain ⟨⟨⟨⟨⟨⟨⟨⟨ho, hn⟩, hc1⟩, hc2⟩, hc6⟩, hc7⟩, hc5⟩, hjp⟩, hjn⟩ := hm
  have h1 := dg_may ho
  have h2 := dg_may hn
  have h3 := callT_len x.call ⟨hc1, hc2, hc5, hc6, hc7⟩
  have h4 := dg_may hjp
  have h5 := dg_may hjn
  unfold textT toT
  repeat' split
  all_goals (simp; try omega)
end Go.Proofs.YtccoafacbbkooaaGreatDoor
