/- Oplog: awake. -/
import Derived.Test.YtjeikkecdgnkoaaOlH
namespace Go.Proofs.Ytjeikkecdgnkoaa
open Go.RowKit Go.Shelf
attribute [local go_sem ↓] ld35 st35 ld42
attribute [local go_sem] run_ld35 run_st35
attribute [local go_sem] cells_take cells_ones cells_size cells_extract putAt9

def x5 : Ent := ⟨0, 0, 0, 0, 0, 0, 0, 0, 5⟩
def x6 : Ent := ⟨0, 0, 0, 0, 0, 0, 0, 0, 6⟩
set_option maxHeartbeats 1000000 in
theorem awake_any (w : World) : Calls Try.prog 9 #[] w fun r w' => r = .returned (.bool true) ∧ Below w.heap.size w w' := by
  have v0 : (Ol.made 1).appV = .tuple #[.int .i64 0, .int .i64 0] := rfl
  have v1 : ((Ol.made 1).app x5).advE 1 = 0 := rfl
  have v2 : (((Ol.made 1).app x5).adv 1).appV = .tuple #[.int .i64 1, .int .i64 0] := rfl
  have v3 : atV (((((Ol.made 1).app x5).adv 1).app x6).get 1) = .tuple #[x6.val, .bool true] := rfl
  go_enter Try.func9, Try.ntmps9
  go_wp2_with fail
  refine (new_log _ 1 (by omega) (by omega)).mono ?_
  rintro r w1 ⟨rfl, L1, B1, Z1⟩
  go_wp2_with fail
  refine (app_log _ _ _ _ x5 L1 (by decide)).mono ?_
  rintro r w2 ⟨rfl, L2, O2⟩
  rw [v0]
  go_wp2_with fail
  refine (adv_log _ _ _ _ 1 L2).mono ?_
  rintro r w3 ⟨rfl, L3, O3⟩
  rw [v1]
  go_wp2_with fail
  refine (app_log _ _ _ _ x6 L3 (by decide)).mono ?_
  rintro r w4 ⟨rfl, L4, O4⟩
  rw [v2]
  go_wp2_with fail
  refine (at_log _ _ _ 1 _ (by decide) L4).mono ?_
  rintro r w5 ⟨rfl, B5⟩
  rw [v3]
  have x68 : x6.cells[8]'(by decide) = .int .i64 6 := rfl
  go_wp2_with fail
  go_ret
  have O : Only (fun k => w.heap.size ≤ k) w w4 := (((Only.of_below_n B1).trans (O2.mono (fun k hk => by omega))).trans (O3.mono (fun k hk => by omega))).trans (O4.mono (fun k hk => by omega))
  exact ⟨rfl, ((O.below (Nat.le_refl _) (fun k hk => hk)).trans (B5.mono O.size)).alloc (Nat.le_trans O.size B5.size) _⟩
end Go.Proofs.Ytjeikkecdgnkoaa
