/- Tlb: the law Last, walked. -/
import Derived.Test.YtgmmnekepelomaaTlR
namespace Go.Proofs.Ytgmmnekepelomaa
open Go.RowKit
attribute [local go_sem ↓] ld30 st30 bs38 ld32
attribute [local go_sem] run_ld30 run_st30 tr_ones tr_size tr_take tr_extract tr_put tr_put' tr_len run_bs38
attribute [local go_sem high] eql30 neq30

theorem last_no (w : World) (n : Int) (A : Option Addr) (len cap : Nat) (x : Tr) (h : n < 1 ∨ 64 < n) :
    Calls Try.prog 5 #[.int .i64 n, .slice A len cap, x.val] w fun r w' => r = .returned (.bool true) ∧ Below w.heap.size w w' := by
  have H := Lib.hid h; clear h
  go_enter Try.func5, Try.ntmps5
  go_wp2_with (go_at_call 7; refine (made_no _ _ H.out).mono ?_; rintro r w1 ⟨rfl, rfl⟩)
  refine wp_loop_rounds 1 ?_
  rw [rounds_succ]
  go_wp2_with (go_at_call 10; refine (awake_any _).mono ?_; rintro r w1 ⟨rfl, B1⟩)
  all_goals
    go_ret
    exact ⟨rfl, ((Below.refl _ _).alloc (Nat.le_refl _) _).trans (B1.mono (by simp))⟩

set_option maxRecDepth 100000 in
set_option maxHeartbeats 8000000 in
theorem last_yes (w : World) (n : Nat) (A : Option Addr) (cap : Nat) (l : List TAct) (x : Tr) (h1 : 1 ≤ n) (h2 : n ≤ 64) (ha : ActsAt w A l) :
    Calls Try.prog 5 #[.int .i64 n, .slice A l.length cap, x.val] w fun r w' => r = .returned (.bool true) ∧ Below w.heap.size w w' := by
  have hl : l.length ≤ 4398046510976 := by have := ha.1; omega
  have HA := Lib.hid ha; clear ha
  go_enter Try.func5, Try.ntmps5
  go_wp2_with fail
  obtain ⟨W0, hW0⟩ : ∃ W0, w.alloc (.cells x.cells.toArray 30) = W0 := ⟨_, rfl⟩
  have B0 : Below w.heap.size w W0 := by rw [← hW0]; exact (Below.refl _ _).alloc (Nat.le_refl _) _
  have X0 : Blk W0 w.heap.size 30 x.cells.toArray := by rw [← hW0]; exact Blk.new _ _ _
  rw [hW0]
  clear hW0
  refine (made_yes W0 n h1 h2).mono ?_
  rintro r w1 ⟨b, br, base, rfl, S1, B1⟩
  have X1 := X0.below B1 X0.lt
  have n0 : w.heap.size < W0.heap.size := X0.lt
  obtain ⟨N0, hN0⟩ : ∃ N0, N0 = W0.heap.size := ⟨_, rfl⟩
  rw [← hN0] at S1 B1 n0
  have B1' : Below w.heap.size w w1 := B0.trans (B1.mono (by omega))
  clear B0 X0 B1 hN0
  go_wp2_with fail
  go_loopw [9, 11] (fun f i wr => ∃ k : Nat, k ≤ l.length ∧ f = .bool true ∧ i = .int .i64 k ∧ St wr N0 base b br ((Tl.made n).run (l.take k)) ∧ Below w.heap.size w wr ∧ Blk wr w.heap.size 30 x.cells.toArray)
    (fun _ i _ => l.length - (intOf i).toNat)
  case atStart => exact ⟨0, Nat.zero_le _, rfl, rfl, S1, B1', X1⟩
  case round =>
    obtain ⟨k, hk, rfl, rfl, hS, hB, hX⟩ := hrel
    clear S1 B1' X1
    by_cases hlt : k < l.length
    · obtain ⟨bb, off, rfl, hload⟩ := HA.out.load hB (i := k) (List.getElem?_eq_getElem hlt)
      have hld : (ldAgg 32 (.pointer (some ⟨bb, off + k * 7, none⟩))).run Try.prog wr = .ok l[k].val wr := hload 0
      clear hload
      go_wp2_with (go_at_call 9; refine (play_st _ _ _ _ _ _ _ hS).mono ?_; rintro r w3 ⟨rfl, hS', hB'⟩)
      go_roundw
      case rel =>
        refine ⟨k + 1, by omega, rfl, by go_num, ?_, hB.trans (hB'.mono (by omega)), hX.below hB' n0⟩
        rw [snoc_take l k hlt, run_snoc]
        exact hS'
      case measure => simp [intOf]; omega
    · have hd : decide (k < l.length) = false := by simpa using hlt
      have r1 := hX.rowOf
      have r2 := hX.plain
      have lx := hX.lt
      obtain ⟨s, hs⟩ : ∃ s, (Tl.made n).run (l.take k) = s := ⟨_, rfl⟩
      rw [hs] at hS
      have HS := Lib.hid hS
      have HX := Lib.hid hX
      clear hs hS hX
      cases hm : x.may
      · have HM := Lib.hid hm
        clear hm
        go_wp2_with (first
          | (go_at_call 15; refine (fill_st _ _ _ _ HS.out.S).mono ?_; rw [HM.out]; rintro r w3 ⟨rfl, T3, O3⟩; have x3 : Blk w3 w.heap.size 30 x.cells.toArray := HX.out.only O3 (by have := HS.out.n0b; omega); have e1 := x3.rowOf; have e2 := x3.plain)
          | (go_at_call 16; refine (rMay_f x _).mono ?_; rw [HM.out]; rintro r w4 ⟨rfl, B4⟩)
          | (go_at_call 10; refine (awake_any _).mono ?_; rintro r w5 ⟨rfl, B5⟩))
        go_ret
        have O : Only (fun k => w.heap.size ≤ k) w w3 := (Only.of_below hB).trans (O3.mono (fun k hk => by subst hk; have := HS.out.n0b; omega))
        have hB3 := O.below (Nat.le_refl _) (fun k hk => hk)
        exact ⟨rfl, (hB3.trans (B4.mono hB3.size)).trans (B5.mono (Nat.le_trans hB3.size B4.size))⟩
      · have hlo := Tr.may_lo hm
        have hhi := Tr.may_hi hm
        have hsg := x.stop_gt
        have hsl := x.stop_le
        have HM := Lib.hid hm
        have hstop : ∀ W, Calls Try.prog 13 #[x.val] W fun r w' => r = .returned (.int .i64 x.stop) ∧ Below W.heap.size W w' := fun W => rEnd_f x W hm
        clear hm
        obtain ⟨sp, hsp⟩ : ∃ sp, x.stop = sp := ⟨_, rfl⟩
        rw [hsp] at hsg hsl hstop
        have HE := Lib.hid hstop
        have HSP := Lib.hid hsp
        clear hsp hstop
        have xp : wr.cell? ⟨w.heap.size, 0, none⟩ = some (.int .i64 x.p) := HX.out.cell 0
        go_wp2_with (go_at_call 15; refine (fill_st _ _ _ _ HS.out.S).mono ?_; rw [HM.out]; rintro r w3 ⟨rfl, T3, O3⟩; have x3 : Blk w3 w.heap.size 30 x.cells.toArray := HX.out.only O3 (by have := HS.out.n0b; omega); have e1 := x3.rowOf; have e2 := x3.plain; have e3 : w3.cell? ⟨w.heap.size, 0, none⟩ = some (.int .i64 x.p) := x3.cell 0)
        have O : Only (fun k => w.heap.size ≤ k) w w3 := (Only.of_below hB).trans (O3.mono (fun k hk => by subst hk; have := HS.out.n0b; omega))
        have hB3 := O.below (Nat.le_refl _) (fun k hk => hk)
        have n0b := HS.out.n0b
        clear O O3 r1 r2 xp e1 e2 e3 hB
        go_loopw [12] (fun p wr => ∃ P : Int, x.p ≤ P ∧ P ≤ sp ∧ p = .int .i64 P ∧ TlAt wr b (s.fill x) ∧ Below w.heap.size w wr ∧ Blk wr w.heap.size 30 x.cells.toArray)
          (fun p _ => (sp - intOf p).toNat)
        case atStart => exact ⟨x.p, by omega, by omega, rfl, T3, hB3, x3⟩
        case round =>
          obtain ⟨P, hP1, hP2, rfl, hT, hB, hX⟩ := hrel
          clear T3 hB3 x3
          have r1 := hX.rowOf
          have r2 := hX.plain
          have lx := hX.lt
          have xp : wr.cell? ⟨w.heap.size, 0, none⟩ = some (.int .i64 x.p) := hX.cell 0
          have HX := Lib.hid hX
          have HT := Lib.hid hT
          clear hX hT
          by_cases hPl : P < sp
          · have hf : findV ((s.fill x).find P) = .tuple #[.agg x.cells.toArray, .bool true] := by rw [fill_find HM.out hP1 (by rw [HSP.out]; exact hPl)]; rfl
            have HF := Lib.hid hf
            clear hf
            go_wp2_with (first
              | (go_at_call 13; refine (HE.out _).mono ?_; rintro r w5 ⟨rfl, B5⟩)
              | (go_at_call 11; refine (find_st _ b (s.fill x) P (HT.out.below B5)).mono ?_; rw [HF.out]; rintro r w6 ⟨rfl, B6⟩; have hB6 := B5.trans (B6.mono B5.size); have x6 := HX.out.below hB6 lx; have e1 := x6.rowOf; have e2 := x6.plain; have l6 := x6.lt))
            go_roundw
            case rel =>
              have B7 := hB6.alloc hB6.size (.cells x.cells.toArray 30)
              exact ⟨P + 1, by omega, by omega, by go_num, HT.out.below B7, hB.trans (B7.mono hB.size), HX.out.below B7 lx⟩
            case measure => simp [intOf]; omega
          · obtain rfl : sp = P := by omega
            have hfd := fill_drop (s := s) HM.out
            have hpp : ((s.fill x).l.length : Int) - ((s.fill x).drop x.p (x.p + 1)).l.length = 1 := by rw [hfd.1, hfd.2]; omega
            have HPP := Lib.hid hpp
            clear hfd hpp
            go_wp2_with (first
              | (go_at_call 13; refine (HE.out _).mono ?_; rintro r w5 ⟨rfl, B5⟩; have e4 := (B5.cell (p := ⟨w.heap.size, 0, none⟩) lx).trans xp)
              | (go_at_call 17; refine (drop_st _ b (s.fill x) _ _ (HT.out.below B5)).mono ?_; rw [HPP.out]; rintro r w6 ⟨rfl, T6, O6⟩; have x6 : Blk w6 w.heap.size 30 x.cells.toArray := (HX.out.below B5 lx).only O6 (by omega); have e5 : w6.cell? ⟨w.heap.size, 0, none⟩ = some (.int .i64 x.p) := x6.cell 0))
            have O : Only (fun k => w.heap.size ≤ k) w w6 := ((Only.of_below hB).trans (Only.of_below B5)).trans (O6.mono (fun k hk => by subst hk; omega))
            have hB6 := O.below (Nat.le_refl _) (fun k hk => hk)
            clear O O6 e4 e5 r1 r2 xp B5 hB
            go_loopw [15] (fun p wr => ∃ P : Int, x.p ≤ P ∧ P ≤ sp ∧ p = .int .i64 P ∧ TlAt wr b ((s.fill x).drop x.p (x.p + 1)) ∧ Below w.heap.size w wr ∧ Blk wr w.heap.size 30 x.cells.toArray)
              (fun p _ => (sp - intOf p).toNat)
            case atStart => exact ⟨x.p, by omega, by omega, rfl, T6, hB6, x6⟩
            case round =>
              obtain ⟨P, hP1, hP2, rfl, hT, hB, hX⟩ := hrel
              clear T6 hB6 x6
              have r1 := hX.rowOf
              have r2 := hX.plain
              have lx := hX.lt
              have HX := Lib.hid hX
              have HT := Lib.hid hT
              clear hX hT
              by_cases hPl : P < sp
              · have hf : findV (((s.fill x).drop x.p (x.p + 1)).find P) = .tuple #[.agg (default : Tr).cells.toArray, .bool false] := by rw [gone_find HM.out hP1 (by rw [HSP.out]; exact hPl)]; rfl
                have HF := Lib.hid hf
                clear hf
                go_wp2_with (first
                  | (go_at_call 13; refine (HE.out _).mono ?_; rintro r w5 ⟨rfl, B5⟩)
                  | (go_at_call 11; refine (find_st _ b _ P (HT.out.below B5)).mono ?_; rw [HF.out]; rintro r w6 ⟨rfl, B6⟩; have hB6 := B5.trans (B6.mono B5.size)))
                go_roundw
                case rel =>
                  have B7 := hB6.alloc hB6.size (.cells (default : Tr).cells.toArray 30)
                  exact ⟨P + 1, by omega, by omega, by go_num, HT.out.below B7, hB.trans (B7.mono hB.size), HX.out.below B7 lx⟩
                case measure => simp [intOf]; omega
              · have hPl' : decide (P < sp) = false := by simpa using hPl
                go_wp2_with (first
                  | (go_at_call 13; refine (HE.out _).mono ?_; rintro r w5 ⟨rfl, B5⟩)
                  | (go_at_call 10; refine (awake_any _).mono ?_; rintro r w6 ⟨rfl, B6⟩))
                go_ret
                exact ⟨rfl, (hB.trans (B5.mono hB.size)).trans (B6.mono (Nat.le_trans hB.size B5.size))⟩
theorem last (w : World) (n : Int) (A : Option Addr) (cap : Nat) (l : List TAct) (x : Tr) (ha : ActsAt w A l) :
    Calls Try.prog 5 #[.int .i64 n, .slice A l.length cap, x.val] w fun r w' => r = .returned (.bool true) ∧ Below w.heap.size w w' := by
  by_cases h : n < 1 ∨ 64 < n
  · exact last_no w n A _ cap x h
  · obtain ⟨m, rfl⟩ := Int.eq_ofNat_of_zero_le (show 0 ≤ n by omega)
    exact last_yes w m A cap l x (by omega) (by omega) ha
end Go.Proofs.Ytgmmnekepelomaa
