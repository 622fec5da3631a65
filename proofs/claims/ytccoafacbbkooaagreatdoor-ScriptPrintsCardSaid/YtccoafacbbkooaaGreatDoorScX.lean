/- Script: the program's policy, words of strings just made. -/
import Derived.Test.YtccoafacbbkooaaGreatDoorScW
namespace Go.Proofs.YtccoafacbbkooaaGreatDoor
open Go.RowKit Go.Maps

theorem dec_len : ∀ (u k : Nat), u < 10 ^ k → 1 ≤ k → (Lib.decDigits u).length ≤ k
  | u, 0, _, h => by omega
  | u, k + 1, h, _ => by
    rw [Lib.decDigits]
    split
    · simp
    · rename_i hu
      have h1 : u / 10 < 10 ^ k := by rw [Nat.div_lt_iff_lt_mul (by omega)]; rw [Nat.pow_succ] at h; exact h
      have hk : 1 ≤ k := by
        rcases Nat.eq_zero_or_pos k with h0 | h0
        · subst h0; omega
        · exact h0
      have := dec_len (u / 10) k h1 hk
      rw [List.length_append, List.length_singleton]
      omega
theorem dg_len {n : Int} (h : In64 n) : (dg n).length ≤ 20 := by
  unfold dg Lib.itoa
  obtain ⟨h1, h2⟩ := h
  split
  · have := dec_len n.natAbs 19 (by omega) (by omega)
    rw [List.length_cons]
    omega
  · have := dec_len n.toNat 19 (by omega) (by omega)
    omega
@[go_sem] theorem bs9_2 (w : World) (a b : ByteArray) : (Instr.buildSlice 48 2 #[(0, .string a), (1, .string b)]).run Tryz.prog w = .ok (.slice (some ⟨w.heap.size, 0, none⟩) 2 2) (w.alloc (.cells #[.string a, .string b] 9)) := by kernel_rfl
@[go_sem] theorem bs9_3 (w : World) (a b c : ByteArray) : (Instr.buildSlice 48 3 #[(0, .string a), (1, .string b), (2, .string c)]).run Tryz.prog w = .ok (.slice (some ⟨w.heap.size, 0, none⟩) 3 3) (w.alloc (.cells #[.string a, .string b, .string c] 9)) := by kernel_rfl
@[go_sem] theorem bs9_4 (w : World) (a b c d : ByteArray) : (Instr.buildSlice 48 4 #[(0, .string a), (1, .string b), (2, .string c), (3, .string d)]).run Tryz.prog w = .ok (.slice (some ⟨w.heap.size, 0, none⟩) 4 4) (w.alloc (.cells #[.string a, .string b, .string c, .string d] 9)) := by kernel_rfl
theorem words_new (w : World) (l : List Wd) (hN : l.length ≤ 1000) (hlen : (joinW l).length ≤ 140737488355328) :
    Calls Tryz.prog 23 #[.slice (some ⟨w.heap.size, 0, none⟩) l.length l.length] (w.alloc (.cells (strs l).toArray 9)) fun e w' => e = .returned (.string (bs (joinW l))) ∧ Below w.heap.size w w' := by
  have hB := Blk.new w 9 (strs l).toArray
  refine (words_w _ w.heap.size 0 l.length l (fun j x hj => ?_) hB.lt (Nat.le_refl _) hN hlen).mono fun e w' h => ⟨h.1, ((Below.refl _ _).alloc (Nat.le_refl _) _).trans (h.2.mono (by simp))⟩
  rw [hB.cell]
  simp [strs, hj]
/-- Words of strings just made. -/
theorem words2 (w : World) (a b : Wd) (hlen : a.length + b.length ≤ 1000000) :
    Calls Tryz.prog 23 #[.slice (some ⟨w.heap.size, 0, none⟩) 2 2] (w.alloc (.cells #[.string (bs a), .string (bs b)] 9)) fun e w' => e = .returned (.string (bs (joinW [a, b]))) ∧ Below w.heap.size w w' :=
  words_new w [a, b] (by simp) (by rw [joinW2]; simp; omega)
theorem words3 (w : World) (a b c : Wd) (hlen : a.length + b.length + c.length ≤ 1000000) :
    Calls Tryz.prog 23 #[.slice (some ⟨w.heap.size, 0, none⟩) 3 3] (w.alloc (.cells #[.string (bs a), .string (bs b), .string (bs c)] 9)) fun e w' => e = .returned (.string (bs (joinW [a, b, c]))) ∧ Below w.heap.size w w' :=
  words_new w [a, b, c] (by simp) (by rw [joinW3]; simp; omega)
theorem words4 (w : World) (a b c d : Wd) (hlen : a.length + b.length + c.length + d.length ≤ 1000000) :
    Calls Tryz.prog 23 #[.slice (some ⟨w.heap.size, 0, none⟩) 4 4] (w.alloc (.cells #[.string (bs a), .string (bs b), .string (bs c), .string (bs d)] 9)) fun e w' => e = .returned (.string (bs (joinW [a, b, c, d]))) ∧ Below w.heap.size w w' :=
  words_new w [a, b, c, d] (by simp) (by rw [joinW4]; simp; omega)

theorem pol_out (k n : Int) (w : World) (h : k < 0 ∨ 4 ≤ k) : Calls Tryz.prog 44 #[.agg #[.int .i64 k, .int .i64 n]] w fun e w' => e = .returned (.string (bs (polP k n))) ∧ Below w.heap.size w w' := by
  have e : bs (polP k n) = { data := #[] } := by
    unfold polP
    rcases h with h | h
    · rw [if_pos h]; rfl
    · rw [if_neg (by omega), if_pos h]; rfl
  rw [e]
  clear e
  rcases h with h | h
  all_goals
    go_enter Tryz.func44, Tryz.ntmps44
    go_wp2_with (go_at_call 59; refine (kinds_w _).mono ?_; rintro e w1 ⟨rfl, rfl⟩)
    go_ret
    exact ⟨rfl, ((Below.refl _ _).alloc (Nat.le_refl _) _).alloc (Nat.le_of_lt (Blk.new w 23 _).lt) _⟩
theorem pol_0 (n : Int) (w : World) : Calls Tryz.prog 44 #[.agg #[.int .i64 0, .int .i64 n]] w fun e w' => e = .returned (.string (bs (polP 0 n))) ∧ Below w.heap.size w w' := by
  have e : bs (polP 0 n) = { data := #[108, 111, 99, 97, 108] } := rfl
  rw [e]
  clear e
  go_enter Tryz.func44, Tryz.ntmps44
  go_wp2_with (go_at_call 59; refine (kinds_w _).mono ?_; rintro e w1 ⟨rfl, rfl⟩)
  go_ret
  exact ⟨rfl, ((Below.refl _ _).alloc (Nat.le_refl _) _).alloc (Nat.le_of_lt (Blk.new w 23 _).lt) _⟩
set_option maxRecDepth 100000 in
set_option maxHeartbeats 4000000 in
theorem pol_1 (n : Int) (w : World) (hn : In64 n) (ht : Tab w) : Calls Tryz.prog 44 #[.agg #[.int .i64 1, .int .i64 n]] w fun e w' => e = .returned (.string (bs (polP 1 n))) ∧ Below w.heap.size w w' := by
  have e : bs (polP 1 n) = bs (joinW [kBind, dg n]) := rfl
  rw [e]
  clear e
  have hl := dg_len hn
  have B0 : Below w.heap.size w ((w.alloc (.cells #[.int .i64 1, .int .i64 n] 23)).alloc (.cells ksA 9)) := ((Below.refl _ _).alloc (Nat.le_refl _) _).alloc (Nat.le_of_lt (Blk.new w 23 _).lt) _
  have P0 : Blk ((w.alloc (.cells #[.int .i64 1, .int .i64 n] 23)).alloc (.cells ksA 9)) w.heap.size 23 #[.int .i64 1, .int .i64 n] := (Blk.new _ _ _).new2 _
  have K0 : Blk ((w.alloc (.cells #[.int .i64 1, .int .i64 n] 23)).alloc (.cells ksA 9)) (w.heap.size + 1) 9 ksA := by
    have := Blk.new (w.alloc (.cells #[.int .i64 1, .int .i64 n] 23)) 9 ksA
    rwa [World.size_alloc] at this
  have HT := Lib.hid ht
  have HB0 := Lib.hid B0
  have HP0 := Lib.hid P0
  have HK0 := Lib.hid K0
  have HN := Lib.hid hn
  have HL := Lib.hid hl
  clear ht B0 hn hl P0 K0
  go_enter Tryz.func44, Tryz.ntmps44
  go_wp2_with (first | (go_at_call 59; refine (kinds_w _).mono ?_; rintro e w1 ⟨rfl, rfl⟩))
  go_region_held3 (fun w' => w'.cell? ⟨w.heap.size, 0, none⟩ = some (.int .i64 1) ∧ w'.cell? ⟨w.heap.size, 1, none⟩ = some (.int .i64 n) ∧ w'.cell? ⟨w.heap.size + 1, 1, none⟩ = some (.string { data := #[98, 105, 110, 100] })) (first | exact ⟨z1, z2, z3⟩ | exact ⟨y1, y2, y3⟩ | go_keep)
    (first
    | (go_at_call 24; refine (digits_w n _ HN.out (HT.out.below HB0.out.drew)).mono ?_; rintro e w3 ⟨rfl, B⟩; have P3 := HP0.out.drew.below B HP0.out.lt; have K3 := HK0.out.drew.below B HK0.out.lt; have z1 : w3.cell? ⟨w.heap.size, 0, none⟩ = some (.int .i64 1) := P3.cell 0; have z2 : w3.cell? ⟨w.heap.size, 1, none⟩ = some (.int .i64 n) := P3.cell 1; have z3 : w3.cell? ⟨w.heap.size + 1, 1, none⟩ = some (.string { data := #[98, 105, 110, 100] }) := K3.cell 1; have HP3 := Lib.hid P3; have HK3 := Lib.hid K3; have HB3 := Lib.hid (HB0.out.drew.trans (B.mono HB0.out.drew.size)); clear P3 K3 B)
    | (go_at_call 23; refine (words2 _ kBind (dg n) (by have := HL.out; simp; omega)).mono ?_; rintro e w4 ⟨rfl, B⟩; have P4 := HP3.out.below B HP3.out.lt; have K4 := HK3.out.below B HK3.out.lt; have y1 : w4.cell? ⟨w.heap.size, 0, none⟩ = some (.int .i64 1) := P4.cell 0; have y2 : w4.cell? ⟨w.heap.size, 1, none⟩ = some (.int .i64 n) := P4.cell 1; have y3 : w4.cell? ⟨w.heap.size + 1, 1, none⟩ = some (.string { data := #[98, 105, 110, 100] }) := K4.cell 1; have HB4 := Lib.hid (HB3.out.trans (B.mono HB3.out.size)); clear P4 K4 B))
  go_wp2_with fail
  go_ret
  exact ⟨rfl, HB4.out⟩
set_option maxRecDepth 100000 in
set_option maxHeartbeats 4000000 in
theorem pol_2 (n : Int) (w : World) (hn : In64 n) (ht : Tab w) : Calls Tryz.prog 44 #[.agg #[.int .i64 2, .int .i64 n]] w fun e w' => e = .returned (.string (bs (polP 2 n))) ∧ Below w.heap.size w w' := by
  have e : bs (polP 2 n) = bs (joinW [kPrefer, dg n]) := rfl
  rw [e]
  clear e
  have hl := dg_len hn
  have B0 : Below w.heap.size w ((w.alloc (.cells #[.int .i64 2, .int .i64 n] 23)).alloc (.cells ksA 9)) := ((Below.refl _ _).alloc (Nat.le_refl _) _).alloc (Nat.le_of_lt (Blk.new w 23 _).lt) _
  have P0 : Blk ((w.alloc (.cells #[.int .i64 2, .int .i64 n] 23)).alloc (.cells ksA 9)) w.heap.size 23 #[.int .i64 2, .int .i64 n] := (Blk.new _ _ _).new2 _
  have K0 : Blk ((w.alloc (.cells #[.int .i64 2, .int .i64 n] 23)).alloc (.cells ksA 9)) (w.heap.size + 1) 9 ksA := by
    have := Blk.new (w.alloc (.cells #[.int .i64 2, .int .i64 n] 23)) 9 ksA
    rwa [World.size_alloc] at this
  have HT := Lib.hid ht
  have HB0 := Lib.hid B0
  have HP0 := Lib.hid P0
  have HK0 := Lib.hid K0
  have HN := Lib.hid hn
  have HL := Lib.hid hl
  clear ht B0 hn hl P0 K0
  go_enter Tryz.func44, Tryz.ntmps44
  go_wp2_with (first | (go_at_call 59; refine (kinds_w _).mono ?_; rintro e w1 ⟨rfl, rfl⟩))
  go_region_held3 (fun w' => w'.cell? ⟨w.heap.size, 0, none⟩ = some (.int .i64 2) ∧ w'.cell? ⟨w.heap.size, 1, none⟩ = some (.int .i64 n) ∧ w'.cell? ⟨w.heap.size + 1, 2, none⟩ = some (.string { data := #[112, 114, 101, 102, 101, 114] })) (first | exact ⟨z1, z2, z3⟩ | exact ⟨y1, y2, y3⟩ | go_keep)
    (first
    | (go_at_call 24; refine (digits_w n _ HN.out (HT.out.below HB0.out.drew)).mono ?_; rintro e w3 ⟨rfl, B⟩; have P3 := HP0.out.drew.below B HP0.out.lt; have K3 := HK0.out.drew.below B HK0.out.lt; have z1 : w3.cell? ⟨w.heap.size, 0, none⟩ = some (.int .i64 2) := P3.cell 0; have z2 : w3.cell? ⟨w.heap.size, 1, none⟩ = some (.int .i64 n) := P3.cell 1; have z3 : w3.cell? ⟨w.heap.size + 1, 2, none⟩ = some (.string { data := #[112, 114, 101, 102, 101, 114] }) := K3.cell 2; have HP3 := Lib.hid P3; have HK3 := Lib.hid K3; have HB3 := Lib.hid (HB0.out.drew.trans (B.mono HB0.out.drew.size)); clear P3 K3 B)
    | (go_at_call 23; refine (words2 _ kPrefer (dg n) (by have := HL.out; simp; omega)).mono ?_; rintro e w4 ⟨rfl, B⟩; have P4 := HP3.out.below B HP3.out.lt; have K4 := HK3.out.below B HK3.out.lt; have y1 : w4.cell? ⟨w.heap.size, 0, none⟩ = some (.int .i64 2) := P4.cell 0; have y2 : w4.cell? ⟨w.heap.size, 1, none⟩ = some (.int .i64 n) := P4.cell 1; have y3 : w4.cell? ⟨w.heap.size + 1, 2, none⟩ = some (.string { data := #[112, 114, 101, 102, 101, 114] }) := K4.cell 2; have HB4 := Lib.hid (HB3.out.trans (B.mono HB3.out.size)); clear P4 K4 B))
  go_wp2_with fail
  go_ret
  exact ⟨rfl, HB4.out⟩
set_option maxRecDepth 100000 in
set_option maxHeartbeats 4000000 in
theorem pol_3 (n : Int) (w : World) (hn : In64 n) (ht : Tab w) : Calls Tryz.prog 44 #[.agg #[.int .i64 3, .int .i64 n]] w fun e w' => e = .returned (.string (bs (polP 3 n))) ∧ Below w.heap.size w w' := by
  have e : bs (polP 3 n) = bs (joinW [kMix, dg n]) := rfl
  rw [e]
  clear e
  have hl := dg_len hn
  have B0 : Below w.heap.size w ((w.alloc (.cells #[.int .i64 3, .int .i64 n] 23)).alloc (.cells ksA 9)) := ((Below.refl _ _).alloc (Nat.le_refl _) _).alloc (Nat.le_of_lt (Blk.new w 23 _).lt) _
  have P0 : Blk ((w.alloc (.cells #[.int .i64 3, .int .i64 n] 23)).alloc (.cells ksA 9)) w.heap.size 23 #[.int .i64 3, .int .i64 n] := (Blk.new _ _ _).new2 _
  have K0 : Blk ((w.alloc (.cells #[.int .i64 3, .int .i64 n] 23)).alloc (.cells ksA 9)) (w.heap.size + 1) 9 ksA := by
    have := Blk.new (w.alloc (.cells #[.int .i64 3, .int .i64 n] 23)) 9 ksA
    rwa [World.size_alloc] at this
  have HT := Lib.hid ht
  have HB0 := Lib.hid B0
  have HP0 := Lib.hid P0
  have HK0 := Lib.hid K0
  have HN := Lib.hid hn
  have HL := Lib.hid hl
  clear ht B0 hn hl P0 K0
  go_enter Tryz.func44, Tryz.ntmps44
  go_wp2_with (first | (go_at_call 59; refine (kinds_w _).mono ?_; rintro e w1 ⟨rfl, rfl⟩))
  go_region_held3 (fun w' => w'.cell? ⟨w.heap.size, 0, none⟩ = some (.int .i64 3) ∧ w'.cell? ⟨w.heap.size, 1, none⟩ = some (.int .i64 n) ∧ w'.cell? ⟨w.heap.size + 1, 3, none⟩ = some (.string { data := #[109, 105, 120] })) (first | exact ⟨z1, z2, z3⟩ | exact ⟨y1, y2, y3⟩ | go_keep)
    (first
    | (go_at_call 24; refine (digits_w n _ HN.out (HT.out.below HB0.out.drew)).mono ?_; rintro e w3 ⟨rfl, B⟩; have P3 := HP0.out.drew.below B HP0.out.lt; have K3 := HK0.out.drew.below B HK0.out.lt; have z1 : w3.cell? ⟨w.heap.size, 0, none⟩ = some (.int .i64 3) := P3.cell 0; have z2 : w3.cell? ⟨w.heap.size, 1, none⟩ = some (.int .i64 n) := P3.cell 1; have z3 : w3.cell? ⟨w.heap.size + 1, 3, none⟩ = some (.string { data := #[109, 105, 120] }) := K3.cell 3; have HP3 := Lib.hid P3; have HK3 := Lib.hid K3; have HB3 := Lib.hid (HB0.out.drew.trans (B.mono HB0.out.drew.size)); clear P3 K3 B)
    | (go_at_call 23; refine (words2 _ kMix (dg n) (by have := HL.out; simp; omega)).mono ?_; rintro e w4 ⟨rfl, B⟩; have P4 := HP3.out.below B HP3.out.lt; have K4 := HK3.out.below B HK3.out.lt; have y1 : w4.cell? ⟨w.heap.size, 0, none⟩ = some (.int .i64 3) := P4.cell 0; have y2 : w4.cell? ⟨w.heap.size, 1, none⟩ = some (.int .i64 n) := P4.cell 1; have y3 : w4.cell? ⟨w.heap.size + 1, 3, none⟩ = some (.string { data := #[109, 105, 120] }) := K4.cell 3; have HB4 := Lib.hid (HB3.out.trans (B.mono HB3.out.size)); clear P4 K4 B))
  go_wp2_with fail
  go_ret
  exact ⟨rfl, HB4.out⟩
theorem policy_w (k n : Int) (w : World) (hn : In64 n) (ht : Tab w) : Calls Tryz.prog 44 #[.agg #[.int .i64 k, .int .i64 n]] w fun e w' => e = .returned (.string (bs (polP k n))) ∧ Below w.heap.size w w' := by
  by_cases h : k < 0 ∨ 4 ≤ k
  · exact pol_out k n w h
  · have : k = 0 ∨ k = 1 ∨ k = 2 ∨ k = 3 := by omega
    rcases this with rfl | rfl | rfl | rfl
    · exact pol_0 n w
    · exact pol_1 n w hn ht
    · exact pol_2 n w hn ht
    · exact pol_3 n w hn ht
theorem polP_len (k : Int) {n : Int} (hn : In64 n) : (polP k n).length ≤ 30 := by
  have := dg_len hn
  unfold polP
  repeat' split
  all_goals (try rw [joinW2]); simp
  all_goals omega
theorem permP_len (p : Int) : (permP p).length ≤ 2 := by
  unfold permP
  repeat' split
  all_goals simp
end Go.Proofs.YtccoafacbbkooaaGreatDoor
