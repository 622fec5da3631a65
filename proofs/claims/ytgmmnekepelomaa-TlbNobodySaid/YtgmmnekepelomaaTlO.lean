/- Tlb: Play: more acts. -/
import Derived.Test.YtgmmnekepelomaaTlN
namespace Go.Proofs.Ytgmmnekepelomaa
open Go.RowKit
attribute [local go_sem ↓] ld30 st30 bs38
attribute [local go_sem] run_ld30 run_st30 tr_ones tr_size tr_take tr_extract tr_put tr_put' tr_len run_bs38
attribute [local go_sem] act_ext act_size
attribute [local go_sem high] eql30 neq30

set_option maxRecDepth 100000 in
set_option maxHeartbeats 4000000 in
theorem play_at (w : World) (n0 base b br : Nat) (s : Tl) (a : TAct) (h : St w n0 base b br s) (ha : a.do_ = 2) :
    Calls Try.prog 9 #[.pointer (some ⟨b, 0, none⟩), .pointer (some ⟨br, 0, none⟩), a.val] w fun r w' => r = .returned (.bool true) ∧ St w' n0 base b br (s.dropAt a.f) ∧ Below n0 w w' := by
  obtain ⟨S, ⟨v, R⟩, h1, h2, h3, h4, h5⟩ := h
  have B1 : Below w.heap.size w (w.alloc (.cells a.cells 32)) := (Below.refl _ _).alloc (Nat.le_refl _) _
  have hbl := S.lt
  have hrl := R.hb.lt
  have x0 : (w.alloc (.cells a.cells 32)).cell? ⟨w.heap.size, 0, none⟩ = some (.int .i64 2) := by
    rw [(Blk.new w 32 a.cells).cell 0]; unfold TAct.cells; rw [ha]; rfl
  have x5 : (w.alloc (.cells a.cells 32)).cell? ⟨w.heap.size, 5, none⟩ = some (.int .i64 a.f) := (Blk.new w 32 a.cells).cell 5
  have S1 := Lib.hid (S.below B1)
  have R1 := Lib.hid (R.below B1)
  have hX := Lib.hid (Blk.new w 32 a.cells)
  obtain ⟨pv, hpv⟩ : ∃ pv, findV (s.at_ a.f) = pv := ⟨_, rfl⟩
  obtain ⟨y, ok, rfl⟩ : ∃ y ok, pv = .tuple #[Tr.val y, .bool ok] := by
    subst hpv
    cases s.at_ a.f with
    | none => exact ⟨_, _, rfl⟩
    | some x => exact ⟨_, _, rfl⟩
  have HPV := Lib.hid hpv
  clear S R B1 ha hpv
  go_enter Try.func9, Try.ntmps9
  go_wp2_with fail
  refine (dropAt_st _ b s _ S1.out).mono ?_
  rw [HPV.out]
  rintro r w3 ⟨rfl, T3, O3⟩
  have hX3 : Blk w3 w.heap.size 32 a.cells := hX.out.only O3 (by omega)
  have z1 : w3.cell? ⟨w.heap.size, 5, none⟩ = some (.int .i64 a.f) := hX3.cell 5
  have l3 := hX3.lt
  have hz3 := O3.size
  simp at hz3
  have R3 := R1.out.kept S1.out O3
  have HX3 := Lib.hid hX3
  clear x0 x5 hX3
  go_wp2_with fail
  refine (rDropAt_st _ base br v s _ (R3.below ((Below.refl _ _).alloc (Nat.le_refl _) _)) (by simp; omega)).mono ?_
  rw [HPV.out]
  rintro r w4 ⟨rfl, v4, T4, O4⟩
  have hy : Blk w4 w3.heap.size 30 y.cells.toArray := (Blk.new w3 30 y.cells.toArray).only O4 (by have := R3.hb.lt; omega)
  have z3 := hy.rowOf
  have z4 := hy.plain
  have ly := hy.lt
  have hO4 : Only (· = br) w3 w4 := ((Only.refl _ _).alloc _).trans O4
  have T3' := T3.kept R3 h4 (hO4.mono (fun k hk => .inl hk))
  have HT3 := Lib.hid T3'
  have HT4 := Lib.hid T4
  have HO3 := Lib.hid O3
  have HO4 := Lib.hid hO4
  clear hy T3 T4 O3 O4 hO4 T3' R3 z1
  cases ok
  all_goals
    go_wp2_with fail
    go_ret
    have B5 : ∀ W, W = w4 → Below w4.heap.size w4 (W.alloc (.cells y.cells.toArray 30)) := fun W hW => by subst hW; exact (Below.refl _ _).alloc (Nat.le_refl _) _
    have O1 : Only (fun k => n0 ≤ k) w w3 := (((Only.refl _ w).alloc _)).trans (HO3.out.mono (fun k hk => by subst hk; exact h1))
    have O2 : Only (fun k => n0 ≤ k) w w4 := O1.trans (HO4.out.mono (fun k hk => by subst hk; exact h2))
    refine ⟨rfl, St.below ⟨HT3.out, ⟨v4, HT4.out⟩, h1, h2, h3, h4, Nat.le_trans h5 O2.size⟩ (B5 _ rfl), (O2.trans (Only.of_below (B5 _ rfl))).below (by omega) (fun k hk => hk)⟩
theorem play_else (w : World) (n0 base b br : Nat) (s : Tl) (a : TAct) (h : St w n0 base b br s) (h0 : a.do_ ≠ 0) (h1 : a.do_ ≠ 1) (h2 : a.do_ ≠ 2) :
    Calls Try.prog 9 #[.pointer (some ⟨b, 0, none⟩), .pointer (some ⟨br, 0, none⟩), a.val] w fun r w' => r = .returned (.bool true) ∧ St w' n0 base b br s ∧ Below n0 w w' := by
  have e0 : (a.do_ == 0) = false := by simpa using h0
  have e1 : (a.do_ == 1) = false := by simpa using h1
  have e2 : (a.do_ == 2) = false := by simpa using h2
  have x0 : (w.alloc (.cells a.cells 32)).cell? ⟨w.heap.size, 0, none⟩ = some (.int .i64 a.do_) := (Blk.new w 32 a.cells).cell 0
  have H := Lib.hid h
  clear h h0 h1 h2
  go_enter Try.func9, Try.ntmps9
  go_wp2_with fail
  go_ret
  have B1 : Below w.heap.size w (w.alloc (.cells a.cells 32)) := (Below.refl _ _).alloc (Nat.le_refl _) _
  have hz := H.out
  exact ⟨rfl, hz.below B1, B1.mono (Nat.le_trans hz.n0z hz.hz)⟩
theorem play_st (w : World) (n0 base b br : Nat) (s : Tl) (a : TAct) (h : St w n0 base b br s) :
    Calls Try.prog 9 #[.pointer (some ⟨b, 0, none⟩), .pointer (some ⟨br, 0, none⟩), a.val] w fun r w' => r = .returned (.bool true) ∧ St w' n0 base b br (s.step a) ∧ Below n0 w w' := by
  unfold Tl.step
  by_cases h0 : a.do_ = 0
  · rw [if_pos h0]; exact play_fill w n0 base b br s a h h0
  · rw [if_neg h0]
    by_cases h1 : a.do_ = 1
    · rw [if_pos h1]; exact play_drop w n0 base b br s a h h1
    · rw [if_neg h1]
      by_cases h2 : a.do_ = 2
      · rw [if_pos h2]; exact play_at w n0 base b br s a h h2
      · rw [if_neg h2]; exact play_else w n0 base b br s a h h0 h1 h2
end Go.Proofs.Ytgmmnekepelomaa
