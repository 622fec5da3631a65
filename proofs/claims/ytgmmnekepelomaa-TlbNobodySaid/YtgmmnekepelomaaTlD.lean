/- Tlb: Drop, DropAt. -/
import Derived.Test.YtgmmnekepelomaaTlC
namespace Go.Proofs.Ytgmmnekepelomaa
open Go.RowKit
attribute [local go_sem ↓] ld30 st30
attribute [local go_sem] run_ld30 run_st30 tr_ones tr_size tr_take tr_extract tr_put tr_put' tr_len

set_option maxHeartbeats 1000000 in
theorem drop1 (x : Tr) (a b : Int) (B1 B2 : Nat) (k : Nat) (w : World) (h : x.may = true) (h1 : Blk w B1 3 #[.int .i64 a]) (h2 : Blk w B2 3 #[.int .i64 b]) :
    Calls Try.prog 29 #[.int .i64 k, x.val, .pointer (some ⟨B1, 0, none⟩), .pointer (some ⟨B2, 0, none⟩)] w fun r w' => r = .returned (.bool (!x.meets a b)) ∧ Below w.heap.size w w' := by
  have hlo := Tr.may_lo h
  have hhi := Tr.may_hi h
  have c1 : w.cell? ⟨B1, 0, none⟩ = some (.int .i64 a) := h1.cell 0
  have c2 : w.cell? ⟨B2, 0, none⟩ = some (.int .i64 b) := h2.cell 0
  have l1 := h1.lt
  have l2 := h2.lt
  obtain ⟨sp, hsp⟩ : ∃ sp, x.stop = sp := ⟨_, rfl⟩
  obtain ⟨e0, he0⟩ : ∃ e0, (!x.meets a b) = e0 := ⟨_, rfl⟩
  rw [he0]
  unfold Tr.meets at he0
  rw [hsp] at he0
  have hend : ∀ W, Calls Try.prog 25 #[x.val] W fun r w' => r = .returned (.int .i64 sp) ∧ Below W.heap.size W w' := fun W => by rw [← hsp]; exact end_f x W h
  have HE := Lib.hid hend
  obtain ⟨p, f, m, h0⟩ := x
  simp only at hlo hhi he0 HE
  unfold Tr.val Tr.cells at *
  simp only at *
  clear hend hsp h h1 h2
  by_cases h1 : a < b
  · by_cases h2 : p < b
    · obtain rfl : decide (sp ≤ a) = e0 := by rw [← he0]; simp [h1, h2]; rw [Bool.eq_iff_iff]; simp
      have e1 : decide (b ≤ a) = false := by simp; omega
      have e2 : decide (b ≤ p) = false := by simp; omega
      clear he0
      go_enter Try.func29, Try.ntmps29
      go_wp2_with fail
      go_region_with (go_at_call 25; refine (HE.out _).mono ?_; rintro r w5 ⟨rfl, B5⟩; have d1 := B5.cell (p := ⟨B1, 0, none⟩) (by simp; omega))
      all_goals
        go_wp2_with fail
        go_ret
        exact ⟨rfl, ((Below.refl _ _).alloc (Nat.le_refl _) _).drew.trans (B5.mono (by simp))⟩
    · have e1 : decide (b ≤ a) = false := by simp; omega
      have e2 : decide (b ≤ p) = true := by simp; omega
      obtain rfl : true = e0 := by rw [← he0]; simp [h2]
      clear he0 h2
      go_enter Try.func29, Try.ntmps29
      go_wp2
      go_quiet (fail)
      go_wp2
      go_ret
      exact ⟨rfl, below_drewN ((Below.refl _ _).alloc (Nat.le_refl _) _) _⟩
  · have e1 : decide (b ≤ a) = true := by simp; omega
    obtain rfl : true = e0 := by rw [← he0]; simp [h1]
    clear he0 h1
    go_enter Try.func29, Try.ntmps29
    go_wp2
    go_quiet (fail)
    go_wp2
    go_ret
    exact ⟨rfl, below_drewN ((Below.refl _ _).alloc (Nat.le_refl _) _) _⟩
theorem at1 (x : Tr) (i : Int) (B1 : Nat) (k : Nat) (w : World) (h1 : Blk w B1 3 #[.int .i64 i]) :
    Calls Try.prog 30 #[.int .i64 k, x.val, .pointer (some ⟨B1, 0, none⟩)] w fun r w' => r = .returned (.bool (decide ((k : Int) ≠ i))) ∧ Below w.heap.size w w' := by
  have c1 : w.cell? ⟨B1, 0, none⟩ = some (.int .i64 i) := h1.cell 0
  have l1 := h1.lt
  obtain ⟨p, f, m, h0⟩ := x
  unfold Tr.val Tr.cells
  clear h1
  go_enter Try.func30, Try.ntmps30
  go_wp2
  go_ret
  exact ⟨by simp [bne, decide_not]; rfl, (Below.refl _ _).alloc (Nat.le_refl _) _⟩
end Go.Proofs.Ytgmmnekepelomaa
