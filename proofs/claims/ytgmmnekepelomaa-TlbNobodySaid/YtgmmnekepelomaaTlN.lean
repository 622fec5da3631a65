/- Tlb: Play: more acts. -/
import Derived.Test.YtgmmnekepelomaaTlM
import Derived.Deep.RegionHeld3
namespace Go.Proofs.Ytgmmnekepelomaa
open Go.RowKit
attribute [local go_sem ↓] ld30 st30 bs38
attribute [local go_sem] run_ld30 run_st30 tr_ones tr_size tr_take tr_extract tr_put tr_put' tr_len run_bs38
attribute [local go_sem] act_ext act_size
attribute [local go_sem high] eql30 neq30

set_option maxRecDepth 100000 in
set_option maxHeartbeats 4000000 in
theorem play_drop (w : World) (n0 base b br : Nat) (s : Tl) (a : TAct) (h : St w n0 base b br s) (ha : a.do_ = 1) :
    Calls Try.prog 9 #[.pointer (some ⟨b, 0, none⟩), .pointer (some ⟨br, 0, none⟩), a.val] w fun r w' => r = .returned (.bool true) ∧ St w' n0 base b br (s.drop a.f a.t) ∧ Below n0 w w' := by
  obtain ⟨S, ⟨v, R⟩, h1, h2, h3, h4, h5⟩ := h
  have B1 : Below w.heap.size w (w.alloc (.cells a.cells 32)) := (Below.refl _ _).alloc (Nat.le_refl _) _
  have hbl := S.lt
  have hrl := R.hb.lt
  have x0 : (w.alloc (.cells a.cells 32)).cell? ⟨w.heap.size, 0, none⟩ = some (.int .i64 1) := by
    rw [(Blk.new w 32 a.cells).cell 0]; unfold TAct.cells; rw [ha]; rfl
  have S1 := Lib.hid (S.below B1)
  have R1 := Lib.hid (R.below B1)
  have hX := Lib.hid (Blk.new w 32 a.cells)
  have x5 : (w.alloc (.cells a.cells 32)).cell? ⟨w.heap.size, 5, none⟩ = some (.int .i64 a.f) := (Blk.new w 32 a.cells).cell 5
  have x6 : (w.alloc (.cells a.cells 32)).cell? ⟨w.heap.size, 6, none⟩ = some (.int .i64 a.t) := (Blk.new w 32 a.cells).cell 6
  clear S R B1 ha
  go_enter Try.func9, Try.ntmps9
  go_wp2_with fail
  go_region_held3 (fun w' => w'.cell? ⟨w.heap.size, 5, none⟩ = some (.int .i64 a.f) ∧ w'.cell? ⟨w.heap.size, 6, none⟩ = some (.int .i64 a.t)) (first | exact ⟨z1, z2⟩ | exact ⟨z3, z4⟩ | go_keep)
    (first
    | (go_at_call 17; refine (drop_st _ b s _ _ (by exact S1.out.below (Below.refl _ _).drew)).mono ?_; rintro r w3 ⟨rfl, T3, O3⟩; have hX3 : Blk w3 w.heap.size 32 a.cells := hX.out.drew.only O3 (by omega); have z1 : w3.cell? ⟨w.heap.size, 5, none⟩ = some (.int .i64 a.f) := hX3.cell 5; have z2 : w3.cell? ⟨w.heap.size, 6, none⟩ = some (.int .i64 a.t) := hX3.cell 6)
    | (go_at_call 23; refine (rDrop_st _ base br v s _ _ ((R1.out.below (Below.refl _ _).drew).kept (S1.out.below (Below.refl _ _).drew) O3) (by have := O3.size; simp at this; omega)).mono ?_; rintro r w4 ⟨rfl, v4, T4, O4⟩; have hX4 : Blk w4 w.heap.size 32 a.cells := hX3.only O4 (by omega); have z3 : w4.cell? ⟨w.heap.size, 5, none⟩ = some (.int .i64 a.f) := hX4.cell 5; have z4 : w4.cell? ⟨w.heap.size, 6, none⟩ = some (.int .i64 a.t) := hX4.cell 6))
  all_goals
    go_wp2_with fail
    go_ret
    have R3 := (R1.out.below (Below.refl _ _).drew).kept (S1.out.below (Below.refl _ _).drew) O3
    have T3' := T3.kept R3 h4 (O4.mono (fun k hk => .inl hk))
    have O1 : Only (fun k => n0 ≤ k) w w3 := (((Only.refl _ w).alloc _).drew).trans (O3.mono (fun k hk => by subst hk; exact h1))
    have O2 : Only (fun k => n0 ≤ k) w w4 := O1.trans (O4.mono (fun k hk => by subst hk; exact h2))
    exact ⟨rfl, ⟨T3', ⟨v4, T4⟩, h1, h2, h3, h4, Nat.le_trans h5 O2.size⟩, O2.below (by omega) (fun k hk => hk)⟩
end Go.Proofs.Ytgmmnekepelomaa
