/- Oplog: the law Nobody, walked. -/
import Derived.Test.YtjeikkecdgnkoaaOlN
namespace Go.Proofs.Ytjeikkecdgnkoaa
open Go.RowKit Go.Shelf
attribute [local go_sem] Oper.semAt_some
attribute [local go_sem ↓] ld35 st35 ld42
attribute [local go_sem] run_ld35 run_st35
attribute [local go_sem] cells_take cells_ones cells_size cells_extract putAt9 OAct.size OAct.c2

/-- Between two steps of Nobody. -/
def nI (w : World) (a : OAct) (_ : List Nat) (W : World) : Prop :=
  (Blk W w.heap.size 42 a.cells ∧ Blk W (w.heap.size + 1) 4 #[.bool false]) ∧ Below w.heap.size w W

set_option maxRecDepth 100000 in
set_option maxHeartbeats 4000000 in
theorem nobody_in (a : OAct) (w : World) :
    CallsIn Fence.wide 9 Try.prog 6 #[.agg a.cells] w fun r w' => r = .returned (.bool true) ∧ Below w.heap.size w w' := by
  have hat : atV none = .tuple #[Ent.zero.val, .bool false] := rfl
  have hfn : ∀ (x : Fn) (y z : Array Value) (w : World), (binOp .eql 54 (.func x y z) .nilFunc).run Try.prog w = .ok (.bool false) w := fun _ _ _ _ => by kernel_rfl
  refine callsIn_of_wp_marks Try.func6 rfl trivial ?_ rfl
  simp only [Try.ntmps6, List.size_toArray, List.length_cons, List.length_nil, Nat.reduceAdd, Nat.reduceSub, Array.replicate_succ, Array.replicate_zero, List.push_toArray, List.append_toArray, List.nil_append, List.cons_append]
  gi_wp2_with fail
  obtain ⟨W0, hW0⟩ : ∃ W0, (w.alloc (.cells a.cells 42)).alloc (.cells #[.bool false] 4) = W0 := ⟨_, rfl⟩
  have hsz : W0.heap.size = w.heap.size + 2 := by rw [← hW0]; simp
  have b1 : Blk W0 w.heap.size 42 a.cells := by rw [← hW0]; exact (Blk.new' _ _ (by simp)).alloc _
  have b2 : Blk W0 (w.heap.size + 1) 4 #[.bool false] := by rw [← hW0]; exact Blk.new' _ _ (by simp)
  have hB0 : Below w.heap.size w W0 := by rw [← hW0]; exact ((Below.refl _ w).alloc (Nat.le_refl _) _).alloc (by simp) _
  rw [hW0]
  clear hW0
  refine wpIn_loop_rounds 3 ?_
  rw [roundsIn_succ]
  have r1 := b1.rowOf
  have r2 := b1.plain
  gi_wp2_with fail
  refine (callsIn_wide.2 (hApp (.inl rfl) _)).mono ?_
  rintro r w1 ⟨rfl, B1⟩
  gi_wp2_with fail
  refine (callsIn_wide.2 (hAt (.inl rfl) _)).mono ?_
  rintro r w2 ⟨rfl, B2⟩
  rw [hat]
  have B3 : Below w.heap.size w (w2.alloc (.cells Ent.zero.cells.toArray 35)) := ((hB0.trans (B1.mono hB0.size)).trans (B2.mono (Nat.le_trans hB0.size B1.size))).alloc (Nat.le_trans hB0.size (Nat.le_trans B1.size B2.size)) _
  obtain ⟨W1, hW1⟩ : ∃ W1, w2.alloc (.cells Ent.zero.cells.toArray 35) = W1 := ⟨_, rfl⟩
  have B01 : Below W0.heap.size W0 W1 := by rw [← hW1]; exact (B1.trans (B2.mono B1.size)).alloc (Nat.le_trans B1.size B2.size) _
  rw [hW1] at B3
  have d1 := b1.below B01 b1.lt
  have d2 := b2.below B01 b2.lt
  have k1 : W1.cell? ⟨w.heap.size, 1, none⟩ = some (.int .i64 a.to) := d1.cell 1
  clear B1 B2
  gi_wp2_with (first
    | (gi_at_call 13; refine (callsIn_wide.2 (hHead (.inl rfl))).mono ?_; rintro r w' ⟨rfl, rfl⟩)
    | (gi_at_call 14; refine (callsIn_wide.2 (hTail (.inl rfl))).mono ?_; rintro r w' ⟨rfl, rfl⟩)
    | (gi_at_call 16; refine (callsIn_wide.2 (hCap (.inl rfl))).mono ?_; rintro r w' ⟨rfl, rfl⟩)
    | (gi_at_call 17; refine (callsIn_wide.2 (hAdv (.inl rfl) _)).mono ?_; rintro r w' ⟨rfl, rfl⟩)
    | (gi_at_call 18; refine (callsIn_wide.2 (all_any _ _)).mono ?_; rintro r w' ⟨rfl, rfl⟩))
  obtain ⟨W2, hW2⟩ : ∃ W2, (W1.alloc (.cells #[.pointer none] 23)).alloc (.cells #[.pointer none] 23) = W2 := ⟨_, rfl⟩
  have hsz2 : W2.heap.size = W1.heap.size + 2 := by rw [← hW2]; simp
  have e1 : Blk W2 w.heap.size 42 a.cells := by rw [← hW2]; exact (d1.alloc _).alloc _
  have e2 : Blk W2 (w.heap.size + 1) 4 #[.bool false] := by rw [← hW2]; exact (d2.alloc _).alloc _
  have e3 : Blk W2 (W1.heap.size + 1) 23 #[.pointer none] := by rw [← hW2]; exact Blk.new' _ _ (by simp)
  have B4 : Below w.heap.size w W2 := by rw [← hW2]; exact (B3.alloc B3.size _).alloc (by have := B3.size; simp; omega) _
  rw [show (W1.alloc (.cells #[.pointer none] 23)).alloc (.cells #[.pointer none] 23) = W2 from hW2]
  clear hW2 B3 d1 d2 k1 hW1 B01 r1 r2 b1 b2 hB0
  refine rangeW (by omega) (gf := 23) (lb := #[.pointer (some ⟨W1.heap.size + 1, 0, none⟩)]) rfl (enters_of Try.func23 (by kernel_rfl) rfl)
    (n₀ := W2.heap.size) (Nat.le_refl _) (hAll1 8 (W1.heap.size + 1) W2.heap.size none W2 (by omega) e3 (.inl rfl)) (fun _ => rfl)
    (nI w a) hX
    (fun t A B row hs hg hr => ⟨⟨blk_kept hs.1.1 hg hr, blk_kept hs.1.2 hg hr⟩, own_blw (by have := B4.size; omega) hs.2 (Nat.le_refl _) hg hr⟩)
    (fun c t A B row hs _ _ => hs)
    ⟨⟨e1, e2⟩, B4⟩
    (fun T x a' W => True)
    (fun T x a' t A B row hs hg hr => trivial) ?assign ?body ?done ?stop
  case assign =>
    rintro l pre x W K hz ⟨⟨d1, d2⟩, hB⟩ hK
    gi_wp2
    exact hK _ _ ((KeepsOthers.refl W).from _) (Below.refl _ W) ⟨⟨d1, d2⟩, hB⟩ trivial
  case body =>
    intro l pre x a' W _ _ _ hlt
    exact absurd hlt (Nat.not_lt_zero _)
  case stop =>
    intro D c pre W _ _ h
    exact h.elim
  case done =>
    rintro D ys W hD hz rfl ⟨⟨c2, c3⟩, hB⟩ hK
    have hww := B4.size
    clear e1 e2 e3 B4
    gi_wp2_with fail
    rw [roundsIn_succ]
    obtain ⟨V0, hV0⟩ : ∃ V0, W.alloc (.cells #[.slice none 0 0, .int .i64 0, .int .i64 0] 48) = V0 := ⟨_, rfl⟩
    have hvz : V0.heap.size = W.heap.size + 1 := by rw [← hV0]; simp
    have g1 : Blk V0 w.heap.size 42 a.cells := by rw [← hV0]; exact c2.alloc _
    have g2 : Blk V0 (w.heap.size + 1) 4 #[.bool false] := by rw [← hV0]; exact c3.alloc _
    have g3 : Hollow V0 (some ⟨W.heap.size, 0, none⟩) := .inr ⟨_, rfl, by rw [← hV0]; exact Blk.new _ _ _⟩
    have gB : Below w.heap.size w V0 := by rw [← hV0]; exact hB.alloc hB.size _
    have gD : Below W.heap.size W V0 := by rw [← hV0]; exact (Below.refl _ W).alloc (Nat.le_refl _) _
    have gK := Lib.hid hK
    have r1 := g1.rowOf
    have r2 := g1.plain
    clear c2 c3 hB hK
    gi_wp2_with fail
    refine (callsIn_wide.2 (hApp g3 _)).mono ?_
    rintro r w3 ⟨rfl, B1⟩
    gi_wp2_with fail
    refine (callsIn_wide.2 (hAt (g3.below B1) _)).mono ?_
    rintro r w4 ⟨rfl, B2⟩
    rw [hat]
    obtain ⟨V1, hV1⟩ : ∃ V1, w4.alloc (.cells Ent.zero.cells.toArray 35) = V1 := ⟨_, rfl⟩
    have B01 : Below V0.heap.size V0 V1 := by rw [← hV1]; exact (B1.trans (B2.mono B1.size)).alloc (Nat.le_trans B1.size B2.size) _
    have d1 := g1.below B01 g1.lt
    have d2 := g2.below B01 g2.lt
    have d3 := g3.below B01
    have dB := gB.trans (B01.mono gB.size)
    have dD := gD.trans (B01.mono gD.size)
    have k1 : V1.cell? ⟨w.heap.size, 1, none⟩ = some (.int .i64 a.to) := d1.cell 1
    clear B1 B2
    gi_wp2_with (first
      | (gi_at_call 13; refine (callsIn_wide.2 (hHead d3)).mono ?_; rintro r w' ⟨rfl, rfl⟩)
      | (gi_at_call 14; refine (callsIn_wide.2 (hTail d3)).mono ?_; rintro r w' ⟨rfl, rfl⟩)
      | (gi_at_call 16; refine (callsIn_wide.2 (hCap d3)).mono ?_; rintro r w' ⟨rfl, rfl⟩)
      | (gi_at_call 17; refine (callsIn_wide.2 (hAdv d3 _)).mono ?_; rintro r w' ⟨rfl, rfl⟩)
      | (gi_at_call 18; refine (callsIn_wide.2 (all_any _ _)).mono ?_; rintro r w' ⟨rfl, rfl⟩))
    obtain ⟨V2, hV2⟩ : ∃ V2, (V1.alloc (.cells #[.pointer (some ⟨W.heap.size, 0, none⟩)] 23)).alloc (.cells #[.pointer (some ⟨W.heap.size, 0, none⟩)] 23) = V2 := ⟨_, rfl⟩
    have hvz2 : V2.heap.size = V1.heap.size + 2 := by rw [← hV2]; simp
    have e1 : Blk V2 w.heap.size 42 a.cells := by rw [← hV2]; exact (d1.alloc _).alloc _
    have e2 : Blk V2 (w.heap.size + 1) 4 #[.bool false] := by rw [← hV2]; exact (d2.alloc _).alloc _
    have e3 : Blk V2 (V1.heap.size + 1) 23 #[.pointer (some ⟨W.heap.size, 0, none⟩)] := by rw [← hV2]; exact Blk.new' _ _ (by simp)
    have B0V : Below V1.heap.size V1 V2 := by rw [← hV2]; exact ((Below.refl _ _).alloc (Nat.le_refl _) _).alloc (by simp) _
    have B4 := dB.trans (B0V.mono dB.size)
    have D4 := dD.trans (B0V.mono dD.size)
    have e4 := d3.below B0V
    rw [hV2]
    clear hV2 dB d1 d2 d3 k1 hV1 B01 r1 r2 g1 g2 g3 gB gD dD B0V
    refine rangeW (by omega) (gf := 23) (lb := #[.pointer (some ⟨V1.heap.size + 1, 0, none⟩)]) rfl (enters_of Try.func23 (by kernel_rfl) rfl)
      (n₀ := V2.heap.size) (Nat.le_refl _) (hAll1 8 (V1.heap.size + 1) V2.heap.size _ V2 (by omega) e3 e4) (fun _ => rfl)
      (fun pre W' => nI w a pre W' ∧ Below V2.heap.size V2 W') hX
      (fun t A B row hs hg hr => ⟨⟨⟨blk_kept hs.1.1.1 hg hr, blk_kept hs.1.1.2 hg hr⟩, own_blw (by have := B4.size; omega) hs.1.2 (Nat.le_refl _) hg hr⟩, own_blw (Nat.le_refl _) hs.2 (Nat.le_refl _) hg hr⟩)
      (fun c t A B row hs _ _ => hs)
      ⟨⟨⟨e1, e2⟩, B4⟩, Below.refl _ _⟩
      (fun T x a' W => True)
      (fun T x a' t A B row hs hg hr => trivial) ?assign ?body ?done ?stop
    case assign =>
      rintro l pre x W' K hz ⟨⟨⟨d1, d2⟩, hB⟩, hBB⟩ hK
      gi_wp2
      exact hK _ _ ((KeepsOthers.refl W').from _) (Below.refl _ W') ⟨⟨⟨d1, d2⟩, hB⟩, hBB⟩ trivial
    case body =>
      intro l pre x a' W _ _ _ hlt
      exact absurd hlt (Nat.not_lt_zero _)
    case stop =>
      intro D c pre W _ _ h
      exact h.elim
    case done =>
      rintro D' ys V hD' hz' rfl ⟨⟨⟨c2, c3⟩, hB⟩, hBB⟩ hK
      have B4' := B4.size
      clear e1 e2 e3 e4 B4
      have m1 := D4.trans (hBB.mono D4.size)
      gi_wp2_with fail
      rw [roundsIn_succ]
      gi_wp2_with fail
      refine (callsIn_wide.2 (awake_any _)).mono ?_
      rintro r w5 ⟨rfl, B5⟩
      have c4 := c3.below B5 c3.lt
      have k4 : w5.cell? ⟨w.heap.size + 1, 0, none⟩ = some (.bool false) := c4.cell 0
      have k5 : w5.frozen? ⟨w.heap.size + 1, 0, none⟩ = false := c4.frozen 0
      gi_wp2_with fail
      have hd : D < W.heap.size := (Array.getElem?_eq_some_iff.1 gK.out).1
      have v1 : V.heap[D]? = some (.deferred (some [])) := (m1.block D hd).trans gK.out
      have v2 : w5.heap[D]? = some (.deferred (some [])) := (B5.block D (Nat.lt_of_lt_of_le hd m1.size)).trans v1
      have v3 : w5.heap[D']? = some (.deferred (some [])) := (B5.block D' (Array.getElem?_eq_some_iff.1 hK).1).trans hK
      have v4 := (KeepsOthers.setCell w5 ⟨w.heap.size + 1, 0, none⟩ (.bool true)).same D _ v2 rfl
      have v5 := (KeepsOthers.setCell w5 ⟨w.heap.size + 1, 0, none⟩ (.bool true)).same D' _ v3 rfl
      have hne : D' ≠ D := by have := D4.size; omega
      have v6 : ((w5.setCell ⟨w.heap.size + 1, 0, none⟩ (.bool true)).putObj D' (.deferred none)).heap[D]? = some (.deferred (some [])) := by
        rw [← v4]
        simp [World.putObj, hne]
      have bb := blk_putObj (o' := .deferred none) (blk_putObj (o' := .deferred none) (c4.set_ 0 (.bool true)) v5 rfl) v6 rfl
      have B6 : Below w.heap.size w w5 := hB.trans (B5.mono hB.size)
      refine ⟨by simp, .inl ⟨_, _, rfl, run_takeDeferred v5, by simp, .inl ⟨_, _, rfl, run_takeDeferred v6, ?_⟩⟩⟩
      exact ⟨_, results_cell1 rfl _ _ rfl (run_loadVar_one _ _ _ 4 4 _ _ _ bb Try.underlying4 rfl rfl), rfl, below_putObj (below_putObj (B6.setCell (p := ⟨w.heap.size + 1, 0, none⟩) (by simp) _) (by have := B4'; omega) _) (by omega) _⟩
theorem nobody (a : OAct) (w : World) :
    Calls Try.prog 6 #[a.val] w fun r w' => r = .returned (.bool true) ∧ Below w.heap.size w w' := callsIn_wide.1 (nobody_in a w)
end Go.Proofs.Ytjeikkecdgnkoaa
