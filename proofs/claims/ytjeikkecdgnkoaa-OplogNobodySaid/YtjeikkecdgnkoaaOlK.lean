/- Oplog: the laws Plays and Reads, walked. -/
import Derived.Test.YtjeikkecdgnkoaaOlJ
namespace Go.Proofs.Ytjeikkecdgnkoaa
open Go.RowKit
attribute [local go_sem ↓] ld35 st35 ld42
attribute [local go_sem] run_ld35 run_st35
attribute [local go_sem] cells_take cells_ones cells_size cells_extract putAt9
attribute [local go_sem high] neq35 eql35

theorem plays_no (w : World) (n : Int) (A : Option Addr) (len cap : Nat) (h : n < 1 ∨ 1024 < n) :
    Calls Try.prog 3 #[.int .i64 n, .slice A len cap] w fun r w' => r = .returned (.bool true) ∧ Below w.heap.size w w' := by
  have H := Lib.hid h; clear h
  go_enter Try.func3, Try.ntmps3
  go_wp2_with (first
    | (go_at_call 7; refine (made_no _ _ _ _ _ H.out).mono ?_; rintro r w1 ⟨rfl, rfl⟩)
    | (go_at_call 9; refine (awake_any _).mono ?_; rintro r w1 ⟨rfl, B1⟩))
  go_ret
  exact ⟨rfl, B1⟩
theorem plays_yes (w : World) (n : Nat) (A : Option Addr) (cap : Nat) (l : List OAct) (h1 : 1 ≤ n) (h2 : n ≤ 1024) (ha : ActsAt w A l) :
    Calls Try.prog 3 #[.int .i64 n, .slice A l.length cap] w fun r w' => r = .returned (.bool true) ∧ Below w.heap.size w w' := by
  have hlen : ((Ol.made n).run l).l.length < 9223372036854775807 := by
    have h := Ol.run_len (Ol.made n) l
    have h3 : (Ol.made n).l.length = 0 := rfl
    have := ha.1
    omega
  have HA := Lib.hid ha; clear ha
  go_enter Try.func3, Try.ntmps3
  go_wp2_with (first
    | (go_at_call 7; refine (made_yes _ n _ _ l h1 h2 HA.out).mono ?_; rintro r w1 ⟨b, e, br, base, rfl, S1, B1⟩)
    | (go_at_call 8; refine (is_st _ _ _ _ _ _ _ hlen S1).mono ?_; rintro r w2 ⟨rfl, B2⟩)
    | (go_at_call 9; refine (awake_any _).mono ?_; rintro r w3 ⟨rfl, B3⟩))
  go_ret
  exact ⟨rfl, (B1.trans (B2.mono B1.size)).trans (B3.mono (Nat.le_trans B1.size B2.size))⟩
theorem plays (w : World) (n : Int) (A : Option Addr) (cap : Nat) (l : List OAct) (ha : ActsAt w A l) :
    Calls Try.prog 3 #[.int .i64 n, .slice A l.length cap] w fun r w' => r = .returned (.bool true) ∧ Below w.heap.size w w' := by
  by_cases h : n < 1 ∨ 1024 < n
  · exact plays_no w n A _ cap h
  · obtain ⟨m, rfl⟩ := Int.eq_ofNat_of_zero_le (show 0 ≤ n by omega)
    exact plays_yes w m A cap l (by omega) (by omega) ha

theorem reads_no (w : World) (n i : Int) (A : Option Addr) (len cap : Nat) (h : n < 1 ∨ 1024 < n) :
    Calls Try.prog 4 #[.int .i64 n, .slice A len cap, .int .i64 i] w fun r w' => r = .returned (.bool true) ∧ Below w.heap.size w w' := by
  have H := Lib.hid h; clear h
  go_enter Try.func4, Try.ntmps4
  go_wp2_with (first
    | (go_at_call 7; refine (made_no _ _ _ _ _ H.out).mono ?_; rintro r w1 ⟨rfl, rfl⟩)
    | (go_at_call 9; refine (awake_any _).mono ?_; rintro r w1 ⟨rfl, B1⟩))
  go_ret
  exact ⟨rfl, B1⟩
theorem reads_yes (w : World) (n : Nat) (i : Int) (A : Option Addr) (cap : Nat) (l : List OAct) (h1 : 1 ≤ n) (h2 : n ≤ 1024) (ha : ActsAt w A l) :
    Calls Try.prog 4 #[.int .i64 n, .slice A l.length cap, .int .i64 i] w fun r w' => r = .returned (.bool true) ∧ Below w.heap.size w w' := by
  have hlen : ((Ol.made n).run l).l.length < 9223372036854775807 := by
    have h := Ol.run_len (Ol.made n) l
    have h3 : (Ol.made n).l.length = 0 := rfl
    have := ha.1
    omega
  have HA := Lib.hid ha; clear ha
  obtain ⟨x, t, hat⟩ : ∃ x t, atV (((Ol.made n).run l).get i) = .tuple #[Ent.val x, .bool t] := by
    cases ((Ol.made n).run l).get i with
    | none => exact ⟨_, _, rfl⟩
    | some x => exact ⟨_, _, rfl⟩
  go_enter Try.func4, Try.ntmps4
  go_wp2_with fail
  refine (made_yes _ n _ _ l h1 h2 HA.out).mono ?_
  rintro r w1 ⟨b, e, br, base, rfl, S1, B1⟩
  obtain ⟨L, ⟨v, R⟩, _⟩ := S1
  have L := Lib.hid L
  have R := Lib.hid R
  go_wp2_with fail
  refine (at_log _ _ _ _ _ hlen L.out).mono ?_
  rintro r w2 ⟨rfl, B2⟩
  rw [hat]
  go_wp2_with fail
  refine (rAt_log _ _ _ _ _ _ (R.out.below (B2.alloc B2.size _))).mono ?_
  rintro r w3 ⟨rfl, B3⟩
  rw [hat]
  have bx : Blk w3 w2.heap.size 35 x.cells.toArray := (Blk.new w2 35 x.cells.toArray).below B3 (by simp)
  have r1 := bx.rowOf
  have r2 := bx.plain
  have hlt := bx.lt
  have BT := Lib.hid (B1.trans ((B2.alloc B2.size (.cells x.cells.toArray 35)).mono B1.size) |>.trans (B3.mono (Nat.le_trans B1.size (Nat.le_trans B2.size (by simp)))))
  clear bx B3 B2 B1
  cases t
  all_goals
    go_wp2_with (go_at_call 9; refine (awake_any _).mono ?_; rintro r w4 ⟨rfl, B4⟩)
    go_ret
    exact ⟨rfl, (BT.out.alloc BT.out.size _).trans (B4.mono (Nat.le_trans BT.out.size (by simp)))⟩
theorem reads (w : World) (n i : Int) (A : Option Addr) (cap : Nat) (l : List OAct) (ha : ActsAt w A l) :
    Calls Try.prog 4 #[.int .i64 n, .slice A l.length cap, .int .i64 i] w fun r w' => r = .returned (.bool true) ∧ Below w.heap.size w w' := by
  by_cases h : n < 1 ∨ 1024 < n
  · exact reads_no w n i A _ cap h
  · obtain ⟨m, rfl⟩ := Int.eq_ofNat_of_zero_le (show 0 ≤ n by omega)
    exact reads_yes w m i A cap l (by omega) (by omega) ha
end Go.Proofs.Ytjeikkecdgnkoaa
