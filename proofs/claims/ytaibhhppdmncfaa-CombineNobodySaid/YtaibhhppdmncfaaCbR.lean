/- Combine: the law Plays, walked. -/
import Derived.Test.YtaibhhppdmncfaaCbQ
namespace Go.Proofs.Ytaibhhppdmncfaa
open Go.RowKit Go.Maps
attribute [local go_sem ↓] ld35

theorem acts_nil (w : World) (A : Option Addr) : ActsAt w A [] := ⟨by simp, (fun a h => by cases h), fun h => by simp at h⟩
theorem plays_no (w : World) (x : Giv) (A : Option Addr) (len cap : Nat) (h : ¬ x.can) :
    Calls Try.prog 4 #[x.val, .slice A len cap] w fun r w' => r = .returned (.bool true) ∧ Below w.heap.size w w' := by
  have H := Lib.hid h; clear h
  have HM := Lib.hid (fun W => made_no W x none 0 0 H.out)
  obtain ⟨a, b, c⟩ := x
  simp only [Giv.val, Giv.cells] at HM ⊢
  go_enter Try.func4, Try.ntmps4
  go_wp2_with (go_at_call 7; refine (HM.out _).mono ?_; rintro r w1 ⟨rfl, B1⟩)
  refine wp_loop_rounds 1 ?_
  rw [rounds_succ]
  go_wp2_with (go_at_call 8; refine (awake_any _).mono ?_; rintro r w2 ⟨rfl, B2⟩)
  all_goals
    go_ret
    exact ⟨rfl, ((Below.refl _ w).alloc (Nat.le_refl _) _).trans ((B1.trans (B2.mono B1.size)).mono (by simp))⟩
set_option maxRecDepth 100000 in
set_option maxHeartbeats 4000000 in
theorem plays_yes (w : World) (x : Giv) (A : Option Addr) (cap : Nat) (l : List CAct) (h : x.can) (ha : ActsAt w A l) :
    Calls Try.prog 4 #[x.val, .slice A l.length cap] w fun r w' => r = .returned (.bool true) ∧ Below w.heap.size w w' := by
  have hl : l.length ≤ 4398046510976 := by have := ha.1; omega
  have HA := Lib.hid ha; clear ha
  have H := Lib.hid h; clear h
  have HM := Lib.hid (fun W => made_yes W x none 0 [] H.out (acts_nil W _))
  obtain ⟨s, hs⟩ : ∃ s, x.made = s := ⟨_, rfl⟩
  rw [hs] at HM
  clear hs
  obtain ⟨a, b0, c⟩ := x
  simp only [Giv.val, Giv.cells, List.length_nil] at HM ⊢
  go_enter Try.func4, Try.ntmps4
  go_wp2_with (go_at_call 7; refine (HM.out _).mono ?_; rintro r w1 ⟨b, m, br, base, rfl, S1, B1⟩)
  have hB1 : Below w.heap.size w w1 := ((Below.refl _ w).alloc (Nat.le_refl _) _).trans (B1.mono (by simp))
  obtain ⟨n0, hn0⟩ : ∃ n0, (w.alloc (.cells #[.int .i64 a, .int .i64 b0, .int .i64 c] 23)).heap.size = n0 := ⟨_, rfl⟩
  rw [hn0] at S1 B1
  have hn : w.heap.size ≤ n0 := by rw [← hn0]; simp
  clear hn0 B1 HM
  go_loopw [7, 9] (fun f i wr => ∃ k : Nat, k ≤ l.length ∧ f = .bool true ∧ i = .int .i64 k ∧ St wr n0 base b m br (s.run (l.take k)) ∧ Below w.heap.size w wr)
    (fun _ i _ => l.length - (intOf i).toNat)
  case atStart => exact ⟨0, Nat.zero_le _, rfl, rfl, S1, hB1⟩
  case round =>
    obtain ⟨k, hk, rfl, rfl, hS, hB⟩ := hrel
    clear S1 hB1
    by_cases hlt : k < l.length
    · obtain ⟨bb, off, rfl, hload⟩ := HA.out.load hB (i := k) (List.getElem?_eq_getElem hlt)
      have hld : (ldAgg 35 (.pointer (some ⟨bb, off + k * 11, none⟩))).run Try.prog wr = .ok l[k].val wr := hload 0
      have hfit := HA.out.2.1 l[k] (List.getElem_mem hlt)
      have HF := Lib.hid hfit
      clear hload hfit
      go_wp2_with (first
        | (go_at_call 10; refine (play_st _ _ _ _ _ _ _ _ hS HF.out).mono ?_; rintro r w3 ⟨rfl, hS', hB', _⟩)
        | (go_at_call 13; refine (is_st _ _ _ _ _ _ _ hS').mono ?_; rintro r w4 ⟨rfl, B4⟩))
      go_roundw
      case rel =>
        have hB3 := hB.trans (hB'.mono hn)
        refine ⟨k + 1, by omega, rfl, by go_num, ?_, hB3.trans (B4.mono hB3.size)⟩
        rw [snoc_take l k hlt, run_snoc]
        exact hS'.below B4
      case measure => simp [intOf]; omega
    · have hd : decide (k < l.length) = false := by simpa using hlt
      go_wp2_with (go_at_call 8; refine (awake_any _).mono ?_; rintro r w4 ⟨rfl, B4⟩)
      go_ret
      exact ⟨rfl, hB.trans (B4.mono hB.size)⟩
theorem plays (w : World) (x : Giv) (A : Option Addr) (cap : Nat) (l : List CAct) (ha : ActsAt w A l) :
    Calls Try.prog 4 #[x.val, .slice A l.length cap] w fun r w' => r = .returned (.bool true) ∧ Below w.heap.size w w' := by
  by_cases h : x.can
  · exact plays_yes w x A cap l h ha
  · exact plays_no w x A _ cap h
end Go.Proofs.Ytaibhhppdmncfaa
