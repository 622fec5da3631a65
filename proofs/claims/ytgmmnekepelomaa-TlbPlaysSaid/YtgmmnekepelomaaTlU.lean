/- Tlb: the law Plays, walked. -/
import Derived.Test.YtgmmnekepelomaaTlT
namespace Go.Proofs.Ytgmmnekepelomaa
open Go.RowKit
attribute [local go_sem ↓] ld30 st30 bs38 ld32
attribute [local go_sem] run_ld30 run_st30 tr_ones tr_size tr_take tr_extract tr_put tr_put' tr_len run_bs38

theorem is_st (w : World) (n0 base b br : Nat) (s : Tl) (h : St w n0 base b br s) :
    Calls Try.prog 8 #[.pointer (some ⟨b, 0, none⟩), .pointer (some ⟨br, 0, none⟩)] w fun r w' => r = .returned (.bool true) ∧ Below w.heap.size w w' := by
  obtain ⟨v, R⟩ := h.R
  exact callsIn_wide.1 (is_in w base b br v s h.S R)
theorem plays_no (w : World) (n : Int) (A : Option Addr) (len cap : Nat) (h : n < 1 ∨ 64 < n) :
    Calls Try.prog 3 #[.int .i64 n, .slice A len cap] w fun r w' => r = .returned (.bool true) ∧ Below w.heap.size w w' := by
  have H := Lib.hid h; clear h
  go_enter Try.func3, Try.ntmps3
  go_wp2_with (go_at_call 7; refine (made_no _ _ H.out).mono ?_; rintro r w1 ⟨rfl, rfl⟩)
  refine wp_loop_rounds 1 ?_
  rw [rounds_succ]
  go_wp2_with (go_at_call 10; refine (awake_any _).mono ?_; rintro r w1 ⟨rfl, B1⟩)
  all_goals
    go_ret
    exact ⟨rfl, B1⟩
set_option maxRecDepth 100000 in
set_option maxHeartbeats 4000000 in
theorem plays_yes (w : World) (n : Nat) (A : Option Addr) (cap : Nat) (l : List TAct) (h1 : 1 ≤ n) (h2 : n ≤ 64) (ha : ActsAt w A l) :
    Calls Try.prog 3 #[.int .i64 n, .slice A l.length cap] w fun r w' => r = .returned (.bool true) ∧ Below w.heap.size w w' := by
  have hl : l.length ≤ 4398046510976 := by have := ha.1; omega
  have HA := Lib.hid ha; clear ha
  go_enter Try.func3, Try.ntmps3
  go_wp2_with (first
    | (go_at_call 7; refine (made_yes _ n h1 h2).mono ?_; rintro r w1 ⟨b, br, base, rfl, S1, B1⟩)
    | (go_at_call 8; refine (is_st _ _ _ _ _ _ S1).mono ?_; rintro r w2 ⟨rfl, B2⟩))
  have S2 := S1.below B2
  have hB2 := B1.trans (B2.mono B1.size)
  clear S1 B1 B2
  go_loopw [7, 9] (fun f i wr => ∃ k : Nat, k ≤ l.length ∧ f = .bool true ∧ i = .int .i64 k ∧ St wr w.heap.size base b br ((Tl.made n).run (l.take k)) ∧ Below w.heap.size w wr)
    (fun _ i _ => l.length - (intOf i).toNat)
  case atStart => exact ⟨0, Nat.zero_le _, rfl, rfl, S2, hB2⟩
  case round =>
    obtain ⟨k, hk, rfl, rfl, hS, hB⟩ := hrel
    clear S2 hB2
    by_cases hlt : k < l.length
    · obtain ⟨bb, off, rfl, hload⟩ := HA.out.load hB (i := k) (List.getElem?_eq_getElem hlt)
      have hld : (ldAgg 32 (.pointer (some ⟨bb, off + k * 7, none⟩))).run Try.prog wr = .ok l[k].val wr := hload 0
      clear hload
      go_wp2_with (first
        | (go_at_call 9; refine (play_st _ _ _ _ _ _ _ hS).mono ?_; rintro r w3 ⟨rfl, hS', hB'⟩)
        | (go_at_call 8; refine (is_st _ _ _ _ _ _ hS').mono ?_; rintro r w4 ⟨rfl, B4⟩))
      go_roundw
      case rel =>
        have hB3 := hB.trans hB'
        refine ⟨k + 1, by omega, rfl, by go_num, ?_, hB3.trans (B4.mono hB3.size)⟩
        rw [snoc_take l k hlt, run_snoc]
        exact hS'.below B4
      case measure => simp [intOf]; omega
    · have hd : decide (k < l.length) = false := by simpa using hlt
      go_wp2_with (go_at_call 10; refine (awake_any _).mono ?_; rintro r w4 ⟨rfl, B4⟩)
      go_ret
      exact ⟨rfl, hB.trans (B4.mono hB.size)⟩
theorem plays (w : World) (n : Int) (A : Option Addr) (cap : Nat) (l : List TAct) (ha : ActsAt w A l) :
    Calls Try.prog 3 #[.int .i64 n, .slice A l.length cap] w fun r w' => r = .returned (.bool true) ∧ Below w.heap.size w w' := by
  by_cases h : n < 1 ∨ 64 < n
  · exact plays_no w n A _ cap h
  · obtain ⟨m, rfl⟩ := Int.eq_ofNat_of_zero_le (show 0 ≤ n by omega)
    exact plays_yes w m A cap l (by omega) (by omega) ha
end Go.Proofs.Ytgmmnekepelomaa
