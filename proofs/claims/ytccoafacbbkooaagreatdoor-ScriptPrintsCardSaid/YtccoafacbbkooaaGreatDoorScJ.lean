/- Script: the reference's number. -/
import Derived.Test.YtccoafacbbkooaaGreatDoorScI
namespace Go.Proofs.YtccoafacbbkooaaGreatDoor
open Go.RowKit

/-- The reference's number of a word. -/
def numR (w : Wd) : Int := match numL w with | some n => (n : Int) | none => -1
theorem valL_take {w : Wd} {k : Nat} (hk : k < w.length) : valL (w.take (k + 1)) = valL (w.take k) * 10 + (w[k].toNat - 48) := by
  rw [List.take_succ_eq_append_getElem hk, valL_snoc]
theorem numR_neg {w : Wd} : numR w < 0 ↔ numL w = none := by
  unfold numR
  cases numL w with
  | none => simp
  | some n => simp

set_option maxHeartbeats 1000000 in
theorem number_r (w : Wd) (W : World) : Calls Tryz.prog 30 #[.string (bs w)] W fun r w' => r = .returned (.int .i64 (numR w)) ∧ W = w' := by
  obtain ⟨s, hs⟩ : ∃ s, bs w = s := ⟨_, rfl⟩
  have hsz : s.size = w.length := by rw [← hs]; exact bs_size w
  have hget : ∀ (k : Nat) (h : k < s.size) (h2 : k < w.length), s[k] = w[k] := by subst hs; intro k h _; rfl
  rw [hs]
  clear hs
  by_cases h0 : w = []
  · subst h0
    have hn : numR [] = -1 := rfl
    have h1 : s.size = 0 := hsz
    rw [hn]
    clear hsz hn hget
    go_enter Tryz.func30, Tryz.ntmps30
    go_wp2_with fail
    go_ret
    exact ⟨rfl, rfl⟩
  · have hpos : 0 < s.size := by rw [hsz]; exact List.length_pos_iff.2 h0
    by_cases h9 : 9 < w.length
    · have hn : numR w = -1 := by
        have hf : formed w = false := by unfold formed; simp; omega
        unfold numR numL; rw [hf]; rfl
      rw [hn]
      have h9' : 9 < s.size := by rw [hsz]; exact h9
      clear hsz hn hget
      go_enter Tryz.func30, Tryz.ntmps30
      go_wp2_with fail
      go_ret
      exact ⟨rfl, rfl⟩
    · by_cases hz : 1 < w.length ∧ w.head? = some 48
      · have hn : numR w = -1 := by
          have hf : formed w = false := by unfold formed; simp [hz.1, hz.2]
          unfold numR numL; rw [hf]; rfl
        rw [hn]
        have h9' : s.size ≤ 9 := by rw [hsz]; omega
        have h1' : 1 < s.size := by rw [hsz]; exact hz.1
        have hc : (s[0].toNat : Int) = 48 := by
          rw [hget 0 (by omega) (by omega)]
          have : w[0]? = some 48 := by rw [← List.head?_eq_getElem?]; exact hz.2
          rw [List.getElem?_eq_getElem (by omega)] at this
          injection this with this
          rw [this]; rfl
        have hc' : ((s[0].toNat : Int) == 48) = true := by simpa using hc
        clear hsz hn hget
        go_enter Tryz.func30, Tryz.ntmps30
        go_wp2_with fail
        go_ret
        exact ⟨rfl, rfl⟩
      · have hform : formed w = true := by
          unfold formed
          have h1 : 1 ≤ w.length := List.length_pos_iff.2 h0
          have h2 : w.length ≤ 9 := by omega
          simp only [h1, h2, decide_true, Bool.true_and, Bool.not_eq_true', Bool.and_eq_false_iff, decide_eq_false_iff_not, beq_eq_false_iff_ne]
          by_cases h3 : 1 < w.length
          · exact .inr (fun e => hz ⟨h3, e⟩)
          · exact .inl h3
        have h9' : s.size ≤ 9 := by rw [hsz]; omega
        have h9w : w.length ≤ 9 := by omega
        have hh : s.size ≤ 1 ∨ (1 < s.size ∧ ((s[0].toNat : Int) == 48) = false) := by
          by_cases h3 : 1 < w.length
          · refine .inr ⟨by rw [hsz]; exact h3, ?_⟩
            rw [hget 0 (by omega) (by omega), beq_eq_false_iff_ne]
            intro e
            refine hz ⟨h3, ?_⟩
            rw [List.head?_eq_getElem?, List.getElem?_eq_getElem (by omega)]
            have : w[0].toNat = (48 : UInt8).toNat := by
              have h4 : (48 : UInt8).toNat = 48 := rfl
              omega
            exact congrArg some (UInt8.toNat_inj.1 this)
          · exact .inl (by rw [hsz]; omega)
        have HF := Lib.hid hform
        have HS := Lib.hid hsz
        have HGet := Lib.hid hget
        clear hz hform hsz hget
        rcases hh with hh | ⟨hh, hh2⟩
        all_goals
          go_enter Tryz.func30, Tryz.ntmps30
          go_wp2_with fail
          go_loopw [3, 4] (fun n i wr => W = wr ∧ ∃ k : Nat, k ≤ s.size ∧ i = .int .i64 k ∧ n = .int .i64 (valL (w.take k)) ∧ ∀ c ∈ w.take k, isDig c = true)
            (fun _ i _ => s.size - (intOf i).toNat)
          case atStart => exact ⟨rfl, 0, Nat.zero_le _, rfl, rfl, by simp⟩
          case round =>
            obtain ⟨rfl, k, hk, rfl, rfl, hd⟩ := hrel
            by_cases hlt : k < s.size
            · have hltw : k < w.length := by rw [← HS.out]; exact hlt
              have hg := HGet.out k hlt hltw
              have hv := valL_take hltw
              have hvl := valL_lt (w.take k) hd
              rw [List.length_take, Nat.min_eq_left (by omega)] at hvl
              have hp : 10 ^ k ≤ 10 ^ 8 := Nat.pow_le_pow_right (by omega) (by omega)
              obtain ⟨c, hc⟩ : ∃ c, w[k] = c := ⟨_, rfl⟩
              rw [hc] at hg hv
              have HHD := Lib.hid hd
              have HV := Lib.hid hv
              obtain ⟨V, hV⟩ : ∃ V, valL (w.take k) = V := ⟨_, rfl⟩
              have HVV := Lib.hid hV
              rw [hV] at hvl ⊢
              have HC := Lib.hid hc
              clear hd hv hV hc
              by_cases hdig : isDig c = true
              · have hd1 : 48 ≤ c.toNat ∧ c.toNat ≤ 57 := by unfold isDig at hdig; simpa using hdig
                obtain ⟨hd2, hd3⟩ := hd1
                go_wp2_with fail
                go_roundw
                case rel =>
                  refine ⟨trivial, k + 1, by omega, by go_num, ?_, ?_⟩
                  · rw [HV.out, HVV.out]
                    congr 1
                    omega
                  · intro y hy
                    rw [List.take_succ_eq_append_getElem hltw, List.mem_append] at hy
                    rcases hy with hy | hy
                    · exact HHD.out y hy
                    · rw [List.mem_singleton, HC.out] at hy
                      rw [hy]; exact hdig
                case measure => simp [intOf]; omega
              · have hn : numR w = -1 := by
                  have : w.all isDig = false := by
                    rw [Bool.eq_false_iff]
                    intro ha
                    rw [List.all_eq_true] at ha
                    exact hdig (by rw [← HC.out]; exact ha _ (List.getElem_mem _))
                  unfold numR numL; rw [HF.out, this]; rfl
                have HN := Lib.hid hn
                by_cases hd2 : c.toNat < 48
                · clear hn
                  go_wp2_with fail
                  go_ret
                  exact ⟨by rw [HN.out]; rfl, rfl⟩
                · have hd3 : 57 < c.toNat := by
                    unfold isDig at hdig
                    simp at hdig
                    omega
                  clear hn
                  go_wp2_with fail
                  go_ret
                  exact ⟨by rw [HN.out]; rfl, rfl⟩
            · obtain rfl : k = s.size := by omega
              have hn : numR w = (valL (w.take s.size) : Int) := by
                have e : w.take s.size = w := by rw [HS.out]; exact List.take_length
                have : w.all isDig = true := by rw [List.all_eq_true]; intro y hy; exact hd y (by rw [e]; exact hy)
                unfold numR numL; rw [HF.out, this, e]; rfl
              have HN := Lib.hid hn
              clear hn hd
              go_wp2_with fail
              go_ret
              exact ⟨by rw [HN.out]; rfl, rfl⟩
end Go.Proofs.YtccoafacbbkooaaGreatDoor
