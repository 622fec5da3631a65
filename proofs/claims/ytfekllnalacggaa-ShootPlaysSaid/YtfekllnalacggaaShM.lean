/- Shoot: the law Order, walked. -/
import Derived.Test.YtfekllnalacggaaShL
namespace Go.Proofs.Ytfekllnalacggaa
open Go.RowKit
attribute [local go_sem ↓] ld35 st35 ld41
attribute [local go_sem] run_ld35 run_st35

theorem Sh.pend_mono (s : Sh) (g g' : Int) (h1 : 1 ≤ g) (h : g ≤ g') (h2 : g' ≤ s.l.length) : s.pend g s.d.length ≤ s.pend g' s.d.length := by
  unfold Sh.pend
  refine List.countP_mono_left (fun k _ hk => ?_)
  unfold Sh.open_ at hk ⊢
  simp only [Bool.and_eq_true, decide_eq_true_eq] at hk ⊢
  omega

theorem order_no (w : World) (n : Int) (A : Option Addr) (len cap : Nat) (h : n < 1 ∨ 64 < n) :
    Calls Try.prog 4 #[.int .i64 n, .slice A len cap] w fun r w' => r = .returned (.bool true) ∧ Below w.heap.size w w' := by
  have H := Lib.hid h; clear h
  go_enter Try.func4, Try.ntmps4
  go_wp2_with (first
    | (go_at_call 7; refine (made_no _ _ _ _ _ H.out).mono ?_; rintro r w1 ⟨rfl, rfl⟩)
    | (go_at_call 8; refine (awake_any _).mono ?_; rintro r w1 ⟨rfl, B1⟩))
  go_ret
  exact ⟨rfl, B1⟩

set_option maxRecDepth 100000 in
set_option maxHeartbeats 4000000 in
theorem order_yes (w : World) (n : Nat) (A : Option Addr) (cap : Nat) (l : List SAct) (h1 : 1 ≤ n) (h2 : n ≤ 64) (ha : ActsAt w A l) :
    Calls Try.prog 4 #[.int .i64 n, .slice A l.length cap] w fun r w' => r = .returned (.bool true) ∧ Below w.heap.size w w' := by
  have hl : l.length ≤ 4398046510976 := by have := ha.1; omega
  have HA := Lib.hid ha; clear ha
  go_enter Try.func4, Try.ntmps4
  go_wp2_with (go_at_call 7; refine (made_yes _ n none 0 [] h1 h2 ⟨by decide, fun h => absurd h (by decide)⟩).mono ?_; rintro r w1 ⟨b, e, br, ed, base, rfl, S1, B1⟩)
  go_loopw [9] (fun i wr => ∃ k : Nat, k ≤ l.length ∧ i = .int .i64 k ∧ St wr w.heap.size base b e br ed ((Sh.made n).run (l.take k)) ∧ Below w.heap.size w wr)
    (fun i _ => l.length - (intOf i).toNat)
  case atStart => exact ⟨0, Nat.zero_le _, rfl, S1, B1⟩
  case round =>
    obtain ⟨k, hk, rfl, hS, hB⟩ := hrel
    clear S1 B1
    by_cases hlt : k < l.length
    · obtain ⟨bb, off, rfl, hload⟩ := HA.out.load hB (i := k) (List.getElem?_eq_getElem hlt)
      have hld : (ldAgg 41 (.pointer (some ⟨bb, off + k * 4, none⟩))).run Try.prog wr = .ok l[k].val wr := hload 0
      clear hload
      have hrl := Sh.run_len (Sh.made n) (l.take k)
      have h3 : (Sh.made n).l.length = 0 := rfl
      rw [List.length_take] at hrl
      have hlen : (((Sh.made n).run (l.take k)).l.length + 1) * 24 ≤ 140737488355328 := by omega
      have hstl := Sh.step_len ((Sh.made n).run (l.take k)) l[k]
      rw [← Sh.run_snoc, ← take_snoc l k hlt] at hstl
      obtain ⟨s, hs⟩ : ∃ s, s = (Sh.made n).run (l.take (k + 1)) := ⟨_, rfl⟩
      have hst : ((Sh.made n).run (l.take k)).step l[k] = s := by rw [hs, take_snoc l k hlt, Sh.run_snoc]
      rw [← hs] at hstl
      have hsl : s.l.length * 16 ≤ 140737488355328 := by omega
      have HS := Lib.hid hs
      have HST := Lib.hid hst
      clear hs hst
      go_wp2_with (first
        | (go_at_call 12; refine (play_st _ _ _ _ _ _ _ _ _ hS hlen).mono ?_; rintro r w3 ⟨rfl, hS', hB'⟩; rw [HST.out] at hS')
        | (go_at_call 13; refine (last_blk _ _ _ _ hS'.S.hb).mono ?_; rintro r w4 ⟨rfl, rfl⟩))
      have hBw := hB.trans hB'
      clear hS hB hB' hld hlen hrl hstl
      go_loopw [10, 11] (fun o gv wr => ∃ (ov : Bool) (g : Nat), g ≤ s.l.length ∧ o = .bool ov ∧ gv = .int .i64 g ∧ (ov = true → ∀ g' : Nat, 1 ≤ g' → g' ≤ g → s.pend g' s.d.length = 0) ∧ St wr w.heap.size base b e br ed s ∧ Below w.heap.size w wr)
        (fun _ gv _ => (intOf gv).toNat)
      case atStart => exact ⟨false, s.l.length, Nat.le_refl _, rfl, rfl, fun h => (by cases h), hS', hBw⟩
      case round =>
        obtain ⟨ov, g, hg, rfl, rfl, ho, hS2, hB2⟩ := hrel
        clear hBw hS'
        by_cases hg1 : 1 ≤ g
        · have hmono : ∀ g' : Nat, 1 ≤ g' → g' ≤ g → s.pend g' s.d.length ≤ s.pend g s.d.length := fun g' h1 h2 => s.pend_mono g' g (by omega) (by omega) (by omega)
          have hov : ov = true → s.pend g s.d.length = 0 := fun h => ho h g hg1 (Nat.le_refl _)
          have HM := Lib.hid hmono
          have HO := Lib.hid ho
          obtain ⟨p, hp⟩ : ∃ p, s.pend g s.d.length = p := ⟨_, rfl⟩
          have HP := Lib.hid hp
          rw [hp] at hov
          have HS2 := Lib.hid hS2
          clear ho hmono hp hS2
          cases ov
          · by_cases hp0 : p = 0
            · subst hp0
              go_wp2_with (go_at_call 11; refine (pending_sh _ _ _ _ _ HS2.out.S hsl).mono ?_; rintro r w5 ⟨rfl, B5⟩; rw [HP.out])
              go_roundw
              case rel => exact ⟨true, g - 1, by omega, rfl, by go_num, fun _ g' h1 h2 => by have := HM.out g' h1 (by omega); rw [HP.out] at this; omega, HS2.out.below B5, hB2.trans (B5.mono hB2.size)⟩
              case measure => simp [intOf]; omega
            · have hpb : ((p : Int) == 0) = false := by rw [beq_eq_false_iff_ne]; omega
              go_wp2_with (go_at_call 11; refine (pending_sh _ _ _ _ _ HS2.out.S hsl).mono ?_; rintro r w5 ⟨rfl, B5⟩; rw [HP.out])
              go_roundw
              case rel => exact ⟨false, g - 1, by omega, rfl, by go_num, fun h => (by cases h), HS2.out.below B5, hB2.trans (B5.mono hB2.size)⟩
              case measure => simp [intOf]; omega
          · obtain rfl := hov rfl
            go_wp2_with (go_at_call 11; refine (pending_sh _ _ _ _ _ HS2.out.S hsl).mono ?_; rintro r w5 ⟨rfl, B5⟩; rw [HP.out])
            go_roundw
            case rel => exact ⟨true, g - 1, by omega, rfl, by go_num, fun _ g' h1 h2 => HO.out trivial g' h1 (by omega), HS2.out.below B5, hB2.trans (B5.mono hB2.size)⟩
            case measure => simp [intOf]; omega
        · have hg0 : decide (1 ≤ g) = false := by simpa using hg1
          go_wp2_with fail
          go_roundw
          case rel => exact ⟨k + 1, by omega, by go_num, by rw [← HS.out]; exact hS2, hB2⟩
          case measure => simp [intOf]; omega
    · go_wp2_with (go_at_call 8; refine (awake_any _).mono ?_; rintro r w4 ⟨rfl, B4⟩)
      go_ret
      exact ⟨rfl, hB.trans (B4.mono hB.size)⟩
theorem order (w : World) (n : Int) (A : Option Addr) (cap : Nat) (l : List SAct) (ha : ActsAt w A l) :
    Calls Try.prog 4 #[.int .i64 n, .slice A l.length cap] w fun r w' => r = .returned (.bool true) ∧ Below w.heap.size w w' := by
  by_cases h : n < 1 ∨ 64 < n
  · exact order_no w n A _ cap h
  · obtain ⟨m, rfl⟩ := Int.eq_ofNat_of_zero_le (show 0 ≤ n by omega)
    exact order_yes w m A cap l (by omega) (by omega) ha
end Go.Proofs.Ytfekllnalacggaa
