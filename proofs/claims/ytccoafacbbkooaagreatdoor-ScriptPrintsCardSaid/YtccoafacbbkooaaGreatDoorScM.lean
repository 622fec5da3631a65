/- Script: the reference's policy. Printed by mkScM.py. -/
import Derived.Test.YtccoafacbbkooaaGreatDoorScL
namespace Go.Proofs.YtccoafacbbkooaaGreatDoor
open Go.RowKit Go.Maps

@[go_sem] theorem bd23_2 (w : World) (k : Int) : (Instr.build 23 #[(1, .int .i64 k)]).run Tryz.prog w = .ok (.agg #[.int .i64 0, .int .i64 k]) w := by kernel_rfl
def polR2 (o : Option (Int × Int)) : Value := .tuple #[polV (o.getD (0, 0)), .bool o.isSome]

set_option maxHeartbeats 1000000 in
theorem pol_n (w : World) (a : Option Addr) (n c : Nat) (h1 : n ≠ 1) (h2 : n ≠ 2) : Calls Tryz.prog 48 #[.slice a n c] w fun e w' => e = .returned (polR2 none) ∧ Below w.heap.size w w' := by
    have n1 : ((n : Int) == 1) = false := by rw [beq_eq_false_iff_ne]; omega
    have n2 : ((n : Int) == 2) = false := by rw [beq_eq_false_iff_ne]; omega
    go_enter Tryz.func48, Tryz.ntmps48
    go_wp2_with fail
    refine bodyPost_ret (results_cellTmp rfl _ _ rfl (run_loadVar_blk _ _ _ 23 23 #[.int .i64 0, .int .i64 0] _ 2 (Blk.new _ _ _) Tryz.underlying23 rfl (by kernel_rfl) (by simp))) rfl ?_
    exact ⟨rfl, (Below.refl _ _).alloc (Nat.le_refl _) _⟩

set_option maxHeartbeats 1000000 in
theorem pol_1y (w : World) (g off c : Nat) (x : Wd) (hc : w.cell? ⟨g, off, none⟩ = some (.string (bs x))) (hg : g < w.heap.size) (h1 : x = kLocal) : Calls Tryz.prog 48 #[.slice (some ⟨g, off, none⟩) 1 c] w fun e w' => e = .returned (polR2 (some (0, 0))) ∧ Below w.heap.size w w' := by
    obtain ⟨s, hs⟩ : ∃ s, bs x = s := ⟨_, rfl⟩
    have htl : s.toList = x := by rw [← hs]; exact bs_toList x
    rw [hs] at hc
    clear hs
    subst h1
    go_enter Tryz.func48, Tryz.ntmps48
    go_wp2_with fail
    refine bodyPost_ret (results_cellTmp rfl _ _ rfl (run_loadVar_blk _ _ _ 23 23 #[.int .i64 0, .int .i64 0] _ 2 (Blk.new _ _ _) Tryz.underlying23 rfl (by kernel_rfl) (by simp))) rfl ?_
    exact ⟨rfl, (Below.refl _ _).alloc (Nat.le_refl _) _⟩

set_option maxHeartbeats 1000000 in
theorem pol_1n (w : World) (g off c : Nat) (x : Wd) (hc : w.cell? ⟨g, off, none⟩ = some (.string (bs x))) (hg : g < w.heap.size) (h1 : x ≠ kLocal) : Calls Tryz.prog 48 #[.slice (some ⟨g, off, none⟩) 1 c] w fun e w' => e = .returned (polR2 none) ∧ Below w.heap.size w w' := by
    obtain ⟨s, hs⟩ : ∃ s, bs x = s := ⟨_, rfl⟩
    have htl : s.toList = x := by rw [← hs]; exact bs_toList x
    rw [hs] at hc
    clear hs
    have g1 : (x == [108, 111, 99, 97, 108]) = false := by simpa using h1
    go_enter Tryz.func48, Tryz.ntmps48
    go_wp2_with fail
    refine bodyPost_ret (results_cellTmp rfl _ _ rfl (run_loadVar_blk _ _ _ 23 23 #[.int .i64 0, .int .i64 0] _ 2 (Blk.new _ _ _) Tryz.underlying23 rfl (by kernel_rfl) (by simp))) rfl ?_
    exact ⟨rfl, (Below.refl _ _).alloc (Nat.le_refl _) _⟩

set_option maxHeartbeats 2000000 in
theorem pol_2none (w : World) (g off c : Nat) (x y : Wd) (hc : w.cell? ⟨g, off, none⟩ = some (.string (bs x))) (hc1 : w.cell? ⟨g, off + 1, none⟩ = some (.string (bs y))) (hg : g < w.heap.size) (hn : numL y = none) : Calls Tryz.prog 48 #[.slice (some ⟨g, off, none⟩) 2 c] w fun e w' => e = .returned (polR2 none) ∧ Below w.heap.size w w' := by
    obtain ⟨s, hs⟩ : ∃ s, bs x = s := ⟨_, rfl⟩
    have htl : s.toList = x := by rw [← hs]; exact bs_toList x
    rw [hs] at hc
    have hnw := fun (W : World) => number_r y W
    have hv : numR y = -1 := by unfold numR; rw [hn]
    simp only [hv] at hnw
    have HNW := Lib.hid hnw
    clear hs hnw hv hn
    go_enter Tryz.func48, Tryz.ntmps48
    go_wp2_with (go_at_call 30; refine (HNW.out _).mono ?_; rintro e w1 ⟨rfl, rfl⟩)
    refine bodyPost_ret (results_cellTmp rfl _ _ rfl (run_loadVar_blk _ _ _ 23 23 #[.int .i64 0, .int .i64 0] _ 2 (Blk.new _ _ _) Tryz.underlying23 rfl (by kernel_rfl) (by simp))) rfl ?_
    exact ⟨rfl, (Below.refl _ _).alloc (Nat.le_refl _) _⟩

set_option maxHeartbeats 2000000 in
theorem pol_2Bind (w : World) (g off c : Nat) (x y : Wd) (hc : w.cell? ⟨g, off, none⟩ = some (.string (bs x))) (hc1 : w.cell? ⟨g, off + 1, none⟩ = some (.string (bs y))) (hg : g < w.heap.size) (n : Nat) (hn : numL y = some n) (h1 : x = kBind) : Calls Tryz.prog 48 #[.slice (some ⟨g, off, none⟩) 2 c] w fun e w' => e = .returned (polR2 (some (1, (n : Int)))) ∧ Below w.heap.size w w' := by
    obtain ⟨s, hs⟩ : ∃ s, bs x = s := ⟨_, rfl⟩
    have htl : s.toList = x := by rw [← hs]; exact bs_toList x
    rw [hs] at hc
    have hnw := fun (W : World) => number_r y W
    have hv : numR y = (n : Int) := by unfold numR; rw [hn]
    simp only [hv] at hnw
    have HNW := Lib.hid hnw
    clear hs hnw hv hn
    subst h1
    go_enter Tryz.func48, Tryz.ntmps48
    go_wp2_with (go_at_call 30; refine (HNW.out _).mono ?_; rintro e w1 ⟨rfl, rfl⟩)
    refine bodyPost_ret (results_cellTmp rfl _ _ rfl (run_loadVar_blk _ _ _ 23 23 #[.int .i64 1, .int .i64 (n : Int)] _ 2 (((Blk.new w 23 _).new2 _).row_ _) Tryz.underlying23 rfl (by kernel_rfl) (by simp))) rfl ?_
    exact ⟨rfl, Below.setRow (((Below.refl _ _).alloc (Nat.le_refl _) _).alloc (Nat.le_of_lt (Blk.new w 23 _).lt) _) (Nat.le_refl _) _⟩

set_option maxHeartbeats 2000000 in
theorem pol_2Prefer (w : World) (g off c : Nat) (x y : Wd) (hc : w.cell? ⟨g, off, none⟩ = some (.string (bs x))) (hc1 : w.cell? ⟨g, off + 1, none⟩ = some (.string (bs y))) (hg : g < w.heap.size) (n : Nat) (hn : numL y = some n) (h1 : x = kPrefer) : Calls Tryz.prog 48 #[.slice (some ⟨g, off, none⟩) 2 c] w fun e w' => e = .returned (polR2 (some (2, (n : Int)))) ∧ Below w.heap.size w w' := by
    obtain ⟨s, hs⟩ : ∃ s, bs x = s := ⟨_, rfl⟩
    have htl : s.toList = x := by rw [← hs]; exact bs_toList x
    rw [hs] at hc
    have hnw := fun (W : World) => number_r y W
    have hv : numR y = (n : Int) := by unfold numR; rw [hn]
    simp only [hv] at hnw
    have HNW := Lib.hid hnw
    clear hs hnw hv hn
    subst h1
    go_enter Tryz.func48, Tryz.ntmps48
    go_wp2_with (go_at_call 30; refine (HNW.out _).mono ?_; rintro e w1 ⟨rfl, rfl⟩)
    refine bodyPost_ret (results_cellTmp rfl _ _ rfl (run_loadVar_blk _ _ _ 23 23 #[.int .i64 2, .int .i64 (n : Int)] _ 2 (((Blk.new w 23 _).new2 _).row_ _) Tryz.underlying23 rfl (by kernel_rfl) (by simp))) rfl ?_
    exact ⟨rfl, Below.setRow (((Below.refl _ _).alloc (Nat.le_refl _) _).alloc (Nat.le_of_lt (Blk.new w 23 _).lt) _) (Nat.le_refl _) _⟩

set_option maxHeartbeats 2000000 in
theorem pol_2Mix (w : World) (g off c : Nat) (x y : Wd) (hc : w.cell? ⟨g, off, none⟩ = some (.string (bs x))) (hc1 : w.cell? ⟨g, off + 1, none⟩ = some (.string (bs y))) (hg : g < w.heap.size) (n : Nat) (hn : numL y = some n) (h1 : x = kMix) : Calls Tryz.prog 48 #[.slice (some ⟨g, off, none⟩) 2 c] w fun e w' => e = .returned (polR2 (some (3, (n : Int)))) ∧ Below w.heap.size w w' := by
    obtain ⟨s, hs⟩ : ∃ s, bs x = s := ⟨_, rfl⟩
    have htl : s.toList = x := by rw [← hs]; exact bs_toList x
    rw [hs] at hc
    have hnw := fun (W : World) => number_r y W
    have hv : numR y = (n : Int) := by unfold numR; rw [hn]
    simp only [hv] at hnw
    have HNW := Lib.hid hnw
    clear hs hnw hv hn
    subst h1
    go_enter Tryz.func48, Tryz.ntmps48
    go_wp2_with (go_at_call 30; refine (HNW.out _).mono ?_; rintro e w1 ⟨rfl, rfl⟩)
    refine bodyPost_ret (results_cellTmp rfl _ _ rfl (run_loadVar_blk _ _ _ 23 23 #[.int .i64 3, .int .i64 (n : Int)] _ 2 (((Blk.new w 23 _).new2 _).row_ _) Tryz.underlying23 rfl (by kernel_rfl) (by simp))) rfl ?_
    exact ⟨rfl, Below.setRow (((Below.refl _ _).alloc (Nat.le_refl _) _).alloc (Nat.le_of_lt (Blk.new w 23 _).lt) _) (Nat.le_refl _) _⟩

set_option maxHeartbeats 2000000 in
theorem pol_2bad (w : World) (g off c : Nat) (x y : Wd) (hc : w.cell? ⟨g, off, none⟩ = some (.string (bs x))) (hc1 : w.cell? ⟨g, off + 1, none⟩ = some (.string (bs y))) (hg : g < w.heap.size) (n : Nat) (hn : numL y = some n) (h_Bind : x ≠ kBind) (h_Prefer : x ≠ kPrefer) (h_Mix : x ≠ kMix) : Calls Tryz.prog 48 #[.slice (some ⟨g, off, none⟩) 2 c] w fun e w' => e = .returned (polR2 none) ∧ Below w.heap.size w w' := by
    obtain ⟨s, hs⟩ : ∃ s, bs x = s := ⟨_, rfl⟩
    have htl : s.toList = x := by rw [← hs]; exact bs_toList x
    rw [hs] at hc
    have hnw := fun (W : World) => number_r y W
    have hv : numR y = (n : Int) := by unfold numR; rw [hn]
    simp only [hv] at hnw
    have HNW := Lib.hid hnw
    clear hs hnw hv hn
    have g_Bind : (x == [98, 105, 110, 100]) = false := by simpa using h_Bind
    have g_Prefer : (x == [112, 114, 101, 102, 101, 114]) = false := by simpa using h_Prefer
    have g_Mix : (x == [109, 105, 120]) = false := by simpa using h_Mix
    go_enter Tryz.func48, Tryz.ntmps48
    go_wp2_with (go_at_call 30; refine (HNW.out _).mono ?_; rintro e w1 ⟨rfl, rfl⟩)
    refine bodyPost_ret (results_cellTmp rfl _ _ rfl (run_loadVar_blk _ _ _ 23 23 #[.int .i64 0, .int .i64 0] _ 2 (((Blk.new w 23 _).new2 _).row_ _) Tryz.underlying23 rfl (by kernel_rfl) (by simp))) rfl ?_
    exact ⟨rfl, Below.setRow (((Below.refl _ _).alloc (Nat.le_refl _) _).alloc (Nat.le_of_lt (Blk.new w 23 _).lt) _) (Nat.le_refl _) _⟩

end Go.Proofs.YtccoafacbbkooaaGreatDoor
