/- Oplog: the law Keeps, walked. -/
import Derived.Test.YtjeikkecdgnkoaaOlK
namespace Go.Proofs.Ytjeikkecdgnkoaa
open Go.RowKit
attribute [local go_sem ↓] ld35 st35 ld42
attribute [local go_sem] run_ld35 run_st35
attribute [local go_sem] cells_take cells_ones cells_size cells_extract putAt9
attribute [local go_sem high] neq35 eql35

theorem Ol.step_mono {s : Ol} (a : OAct) : s.first ≤ (s.step a).first ∧ s.l.length ≤ (s.step a).l.length ∧ (s.step a).slots = s.slots := by
  unfold Ol.step
  split
  · unfold Ol.adv
    split
    · rename_i h; refine ⟨?_, Nat.le_refl _, rfl⟩; show s.first ≤ a.to.toNat; omega
    · exact ⟨Nat.le_refl _, Nat.le_refl _, rfl⟩
  · unfold Ol.app
    split
    · exact ⟨Nat.le_refl _, by simp, rfl⟩
    · exact ⟨Nat.le_refl _, Nat.le_refl _, rfl⟩
theorem Ol.run_slots (s : Ol) (l : List OAct) : (s.run l).slots = s.slots := by
  induction l generalizing s with
  | nil => rfl
  | cons a l ih => exact (ih (s.step a)).trans (Ol.step_mono a).2.2

theorem keeps_no (w : World) (n : Int) (A : Option Addr) (len cap : Nat) (h : n < 1 ∨ 1024 < n) :
    Calls Try.prog 5 #[.int .i64 n, .slice A len cap] w fun r w' => r = .returned (.bool true) ∧ Below w.heap.size w w' := by
  have H := Lib.hid h; clear h
  go_enter Try.func5, Try.ntmps5
  go_wp2_with (first
    | (go_at_call 7; refine (made_no _ _ _ _ _ H.out).mono ?_; rintro r w1 ⟨rfl, rfl⟩)
    | (go_at_call 9; refine (awake_any _).mono ?_; rintro r w1 ⟨rfl, B1⟩))
  go_ret
  exact ⟨rfl, B1⟩
set_option maxRecDepth 100000 in
set_option maxHeartbeats 2000000 in
theorem keeps_yes (w : World) (n : Nat) (A : Option Addr) (cap : Nat) (l : List OAct) (h1 : 1 ≤ n) (h2 : n ≤ 1024) (ha : ActsAt w A l) :
    Calls Try.prog 5 #[.int .i64 n, .slice A l.length cap] w fun r w' => r = .returned (.bool true) ∧ Below w.heap.size w w' := by
  have hl : l.length ≤ 1599289640354 := by have := ha.1; omega
  have HA := Lib.hid ha; clear ha
  go_enter Try.func5, Try.ntmps5
  go_wp2_with (go_at_call 7; refine (made_yes _ n none 0 [] h1 h2 ⟨by decide, fun h => absurd h (by decide)⟩).mono ?_; rintro r w1 ⟨b, e, br, base, rfl, S1, B1⟩)
  go_loopw [9, 10, 11] (fun hd tl i wr => ∃ k : Nat, k ≤ l.length ∧ hd = .int .i64 ((Ol.made n).run (l.take k)).first ∧ tl = .int .i64 ((Ol.made n).run (l.take k)).l.length ∧ i = .int .i64 k ∧ St wr w.heap.size base b e br ((Ol.made n).run (l.take k)) ∧ Below w.heap.size w wr)
    (fun _ _ i _ => l.length - (intOf i).toNat)
  case atStart => exact ⟨0, Nat.zero_le _, rfl, rfl, rfl, S1, B1⟩
  case round =>
    obtain ⟨k, hk, rfl, rfl, rfl, hS, hB⟩ := hrel
    clear S1 B1
    by_cases hlt : k < l.length
    · obtain ⟨bb, off, rfl, hload⟩ := HA.out.load hB (i := k) (List.getElem?_eq_getElem hlt)
      have hld : (ldAgg 42 (.pointer (some ⟨bb, off + k * 11, none⟩))).run Try.prog wr = .ok l[k].val wr := hload 0
      clear hload
      have hlen : (((Ol.made n).run (l.take k)).l.length + 1) * 72 ≤ 140737488355328 := by
        have h := Ol.run_len (Ol.made n) (l.take k)
        have h3 : (Ol.made n).l.length = 0 := rfl
        rw [List.length_take] at h
        omega
      obtain ⟨s, hs⟩ : ∃ s, s = (Ol.made n).run (l.take k) := ⟨_, rfl⟩
      have hs1 : s.slots = n := by rw [hs]; exact Ol.run_slots _ _
      have hst : (Ol.made n).run (l.take (k + 1)) = s.step l[k] := by rw [take_snoc l k hlt, Ol.run_snoc, hs]
      rw [← hs] at hS hlen ⊢
      obtain ⟨t, ht⟩ : ∃ t, t = s.step l[k] := ⟨_, rfl⟩
      have hm := Ol.step_mono (s := s) l[k]
      have hok := Ol.step_ok hS.L.ok l[k]
      have htl := Ol.step_len s l[k]
      rw [← ht] at hm hok htl
      rw [← ht] at hst
      have q1 : decide (t.first < s.first) = false := by simp; omega
      have q2 : decide (t.l.length < s.l.length) = false := by simp; omega
      have q3 : decide ((n : Int) < (t.l.length : Int) - (t.first : Int)) = false := by have := hok.n; simp; omega
      have hsl : t.l.length < 9223372036854775807 := by omega
      have hff := hok.f
      have HM := Lib.hid hm
      have HT := Lib.hid ht
      have HS := Lib.hid hst
      clear hm ht hst hs hok
      go_wp2_with (first
        | (go_at_call 12; refine (play_st _ _ _ _ _ _ _ _ hS hlen).mono ?_; rintro r w3 ⟨rfl, hS', hB'⟩; rw [← HT.out] at hS')
        | (go_at_call 13; refine (head_blk _ _ _ _ _ hS'.L.hb).mono ?_; rintro r w4 ⟨rfl, rfl⟩)
        | (go_at_call 14; refine (tail_blk _ _ _ _ _ hS'.L.hb).mono ?_; rintro r w4 ⟨rfl, rfl⟩))
      clear hlen hld q1 q2 q3
      have hBw := hB.trans hB'
      clear hB hB'
      go_loopw [12] (fun i wr => ∃ j : Nat, t.first ≤ j ∧ j ≤ t.l.length ∧ i = .int .i64 j ∧ St wr w.heap.size base b e br t ∧ Below w.heap.size w wr)
        (fun i _ => t.l.length - (intOf i).toNat)
      case atStart => exact ⟨t.first, Nat.le_refl _, hff, rfl, hS', hBw⟩
      case round =>
        obtain ⟨j, hj1, hj2, rfl, hS2, hB2⟩ := hrel
        clear hBw hS' hS
        by_cases hjl : j < t.l.length
        · obtain ⟨L, ⟨v, R⟩, _⟩ := id hS2
          have hat : atV (t.get j) = .tuple #[t.l[j].val, .bool true] := by
            unfold Ol.get
            rw [if_pos (by omega), List.getElem?_eq_getElem (by omega)]
            rfl
          have L := Lib.hid L
          have R := Lib.hid R
          have HS2 := Lib.hid hS2
          clear hS2
          go_wp2_with fail
          refine (at_log _ _ _ _ _ hsl L.out).mono ?_
          rintro r w4 ⟨rfl, B4⟩
          rw [hat]
          have hR3 := R.out.below (B4.alloc B4.size (.cells t.l[j].cells.toArray 35))
          obtain ⟨g, gc, cur, rfl, hg, hcur, hfit⟩ := own_entry hR3.hv hjl
          have k4 : (w4.alloc (.cells t.l[j].cells.toArray 35)).cell? ⟨br, 2, none⟩ = some (.slice (some ⟨g, 0, none⟩) t.l.length gc) := hR3.hb.cell 2
          have bX : Blk (w4.alloc (.cells t.l[j].cells.toArray 35)) w4.heap.size 35 t.l[j].cells.toArray := Blk.new _ _ _
          have r1 := hg.rowOf
          have r2 := hg.plain
          have r3 := bX.rowOf
          have r4 := bX.plain
          clear hg bX hR3
          go_wp2_with fail
          go_quiet (fail)
          go_wp2
          go_roundw
          case rel =>
            have BB := below_drewN (B4.alloc B4.size (.cells t.l[j].cells.toArray 35)) nq
            exact ⟨j + 1, by omega, by omega, by go_num, HS2.out.below BB, hB2.trans (BB.mono hB2.size)⟩
          case measure => simp [intOf]; omega
        · go_wp2
          go_roundw
          case rel =>
            have e1 : j = t.l.length := by omega
            refine ⟨k + 1, by omega, ?_, ?_, by go_num, ?_, hB2⟩
            · rw [HS.out]
            · rw [HS.out]
            · rw [HS.out]; exact hS2
          case measure => simp [intOf]; omega
    · go_wp2_with (go_at_call 9; refine (awake_any _).mono ?_; rintro r w4 ⟨rfl, B4⟩)
      go_ret
      exact ⟨rfl, hB.trans (B4.mono hB.size)⟩
theorem keeps (w : World) (n : Int) (A : Option Addr) (cap : Nat) (l : List OAct) (ha : ActsAt w A l) :
    Calls Try.prog 5 #[.int .i64 n, .slice A l.length cap] w fun r w' => r = .returned (.bool true) ∧ Below w.heap.size w w' := by
  by_cases h : n < 1 ∨ 1024 < n
  · exact keeps_no w n A _ cap h
  · obtain ⟨m, rfl⟩ := Int.eq_ofNat_of_zero_le (show 0 ≤ n by omega)
    exact keeps_yes w m A cap l (by omega) (by omega) ha
end Go.Proofs.Ytjeikkecdgnkoaa
