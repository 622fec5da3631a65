/- Tlb: the law Nobody, walked: the rounds. -/
import Derived.Test.YtgmmnekepelomaaTlV
namespace Go.Proofs.Ytgmmnekepelomaa
open Go.RowKit Go.Shelf
attribute [local go_sem] Oper.semAt_some
attribute [local go_sem ↓] ld30 st30 bs38 ld32
attribute [local go_sem] run_ld30 run_st30 tr_ones tr_size tr_take tr_extract tr_put tr_put' tr_len run_bs38

def nI (w : World) (x : Tr) (B : Nat) (V : World) (_ : List Nat) (W : World) : Prop :=
  (Blk W w.heap.size 30 x.cells.toArray ∧ Blk W (w.heap.size + 1) 4 #[.bool false]) ∧ Below w.heap.size w W ∧ Below B V W
set_option maxRecDepth 100000 in
set_option maxHeartbeats 8000000 in
theorem nobody_in (x : Tr) (w : World) :
    CallsIn Fence.wide 10 Try.prog 6 #[x.val] w fun r w' => r = .returned (.bool true) ∧ Below w.heap.size w w' := by
  have hfn : ∀ (x : Fn) (y z : Array Value) (w : World), (binOp .eql 52 (.func x y z) .nilFunc).run Try.prog w = .ok (.bool false) w := fun _ _ _ _ => by kernel_rfl
  have hput : putAt z4 0 [.int .i64 0, .int .i64 0, .int .i64 0, .bool false] = z4 := rfl
  have hones : ones z4 = true := by simp [ones, Value.oneCell']
  have hzt := zero50
  refine callsIn_of_wp_marks Try.func6 rfl trivial ?_ rfl
  simp only [Try.ntmps6, List.size_toArray, List.length_cons, List.length_nil, Nat.reduceAdd, Nat.reduceSub, Array.replicate_succ, Array.replicate_zero, List.push_toArray, List.append_toArray, List.nil_append, List.cons_append]
  gi_wp2_with fail
  obtain ⟨W0, hW0⟩ : ∃ W0, (w.alloc (.cells x.cells.toArray 30)).alloc (.cells #[.bool false] 4) = W0 := ⟨_, rfl⟩
  have X0 := Lib.hid (show Blk W0 w.heap.size 30 x.cells.toArray from by rw [← hW0]; exact (Blk.new' _ _ (by simp)).alloc _)
  have F0 := Lib.hid (show Blk W0 (w.heap.size + 1) 4 #[.bool false] from by rw [← hW0]; exact Blk.new' _ _ (by simp))
  have HB0 := Lib.hid (show Below w.heap.size w W0 from by rw [← hW0]; exact ((Below.refl _ w).alloc (Nat.le_refl _) _).alloc (by simp) _)
  have G0 := Lib.hid (show Hollow W0 none from .inl rfl)
  rw [hW0]
  clear hW0
  refine wpIn_loop_rounds 3 ?_
  rw [roundsIn_succ]
  have xp : W0.cell? ⟨w.heap.size, 0, none⟩ = some (.int .i64 x.p) := X0.out.cell 0
  gi_wp2_with fail
  refine (callsIn_wide.2 (hFind G0.out _)).mono ?_
  rintro r w2 ⟨rfl, B2⟩
  have X2 := X0.out.below B2 X0.out.lt
  have F2 := F0.out.below B2 F0.out.lt
  have G2 := Lib.hid (G0.out.below B2)
  have hB2 := HB0.out.trans (B2.mono HB0.out.size)
  clear xp
  gi_wp2_with fail
  obtain ⟨W3, hW3⟩ : ∃ W3, w2.alloc (.cells z4 30) = W3 := ⟨_, rfl⟩
  have Y3 : Blk W3 w2.heap.size 30 z4 := by rw [← hW3]; exact Blk.new _ _ _
  have X3 : Blk W3 w.heap.size 30 x.cells.toArray := by rw [← hW3]; exact X2.alloc _
  have F3 : Blk W3 (w.heap.size + 1) 4 #[.bool false] := by rw [← hW3]; exact F2.alloc _
  have hB3 : Below w.heap.size w W3 := by rw [← hW3]; exact hB2.alloc hB2.size _
  have G3 := Lib.hid (show Hollow W3 none from by rw [← hW3]; exact G2.out.below ((Below.refl _ _).alloc (Nat.le_refl _) _))
  have BV3 : Below W0.heap.size W0 W3 := by rw [← hW3]; exact B2.alloc B2.size _
  rw [hW3]
  clear hW3 X2 F2 G2 hB2 B2
  refine (callsIn_wide.2 (hDropAt G3.out 0 (by omega))).mono ?_
  rintro r w4 ⟨rfl, B4⟩
  have Y4 := Y3.below B4 Y3.lt
  have X4 := X3.below B4 X3.lt
  have F4 := F3.below B4 F3.lt
  have G4 := Lib.hid (G3.out.below B4)
  have hB4 := hB3.trans (B4.mono hB3.size)
  have BV4 := BV3.trans (B4.mono BV3.size)
  have v1 := Y4.rowOf
  have v2 := Y4.plain
  have v3 := Y4.lt
  have v4 := X4.rowOf
  have v5 := X4.plain
  have v6 := X4.lt
  have HX4 := Lib.hid X4
  have HF4 := Lib.hid F4
  have HB4 := Lib.hid hB4
  have HBV4 := Lib.hid BV4
  clear Y3 X3 F3 hB3 BV3 G3 B4 Y4 X4 F4 hB4 BV4
  gi_wp2_with fail
  have a4 : Below w4.heap.size w4 (w4.alloc (.cells z4 30)) := (Below.refl _ _).alloc (Nat.le_refl _) _
  refine (callsIn_wide.2 (hFill (G4.out.below a4) x)).mono ?_
  rintro r w5 ⟨rfl, B5⟩
  have B5' := a4.trans (B5.mono a4.size)
  clear v1 v2 v3 v4 v5 v6 a4 B5
  gi_wp2_with fail
  refine (callsIn_wide.2 (hDrop (G4.out.below B5') _ _)).mono ?_
  rintro r w6 ⟨rfl, B6⟩
  have B6' := B5'.trans (B6.mono B5'.size)
  clear B5' B6
  gi_wp2_with (first
    | (gi_at_call 14; refine (callsIn_wide.2 (hLen (G4.out.below B6'))).mono ?_; rintro r w7 ⟨rfl, rfl⟩)
    | (gi_at_call 19; refine (callsIn_wide.2 (all_any _ _)).mono ?_; rintro r w7 ⟨rfl, rfl⟩))
  obtain ⟨W8, hW8⟩ : ∃ W8, (w6.alloc (.cells #[.pointer none] 23)).alloc (.cells #[.pointer none] 23) = W8 := ⟨_, rfl⟩
  have hsz8 : W8.heap.size = w6.heap.size + 2 := by rw [← hW8]; simp
  have a68 : Below w6.heap.size w6 W8 := by rw [← hW8]; exact ((Below.refl _ _).alloc (Nat.le_refl _) _).alloc (by simp) _
  have a48 : Below w4.heap.size w4 W8 := B6'.trans (a68.mono B6'.size)
  have q1 : Blk W8 (w6.heap.size + 1) 23 #[.pointer none] := by rw [← hW8]; exact Blk.new' _ _ (by simp)
  have X8 := HX4.out.below a48 HX4.out.lt
  have F8 := HF4.out.below a48 HF4.out.lt
  have G8 := G4.out.below a48
  have hB8 := HB4.out.trans (a48.mono HB4.out.size)
  have BV8 := HBV4.out.trans (a48.mono HBV4.out.size)
  rw [hW8]
  clear hW8 a68 a48 B6'
  refine rangeW (by omega) (gf := 31) (lb := #[.pointer (some ⟨w6.heap.size + 1, 0, none⟩)]) rfl (enters_of Try.func31 (by kernel_rfl) rfl)
    (n₀ := W8.heap.size) (Nat.le_refl _) (hAll1 9 (w6.heap.size + 1) W8.heap.size none W8 q1 G8) (fun _ => rfl)
    (nI w x W8.heap.size W8) hX
    (fun t A B row hs hg hr => ⟨⟨blk_kept hs.1.1 hg hr, blk_kept hs.1.2 hg hr⟩, own_blw (by have := hB8.size; omega) hs.2.1 (Nat.le_refl _) hg hr, own_blw (Nat.le_refl _) hs.2.2 (Nat.le_refl _) hg hr⟩)
    (fun c t A B row hs _ _ => hs)
    ⟨⟨X8, F8⟩, hB8, Below.refl _ _⟩
    (fun T x a' W => True)
    (fun T x a' t A B row hs hg hr => trivial) ?assign ?body ?done ?stop
  case assign =>
    rintro l pre y W K hz ⟨⟨d1, d2⟩, hB, hBB⟩ hK
    gi_wp2
    exact hK _ _ ((KeepsOthers.refl W).from _) (Below.refl _ W) ⟨⟨d1, d2⟩, hB, hBB⟩ trivial
  case body =>
    intro l pre x a' W _ _ _ hlt
    exact absurd hlt (Nat.not_lt_zero _)
  case stop =>
    intro D c pre W _ _ _ h
    exact h.elim
  case done =>
    rintro D1 ys W hD hz rfl ⟨⟨d1, d2⟩, hB, hBB⟩ hK
    have nD1 : w.heap.size ≤ D1 := Nat.le_trans hB8.size hD
    clear X8 F8 G8 hB8 BV8 q1 HX4 HF4 HB4 HBV4 X0 F0 HB0
    gi_wp2_with fail
    rw [roundsIn_succ]
    obtain ⟨U, hU⟩ : ∃ U, U = W.heap.size := ⟨_, rfl⟩
    obtain ⟨V0, hV0⟩ : ∃ V0, W.alloc (.cells tlb0 50) = V0 := ⟨_, rfl⟩
    have X0 := Lib.hid (show Blk V0 w.heap.size 30 x.cells.toArray from by rw [← hV0]; exact d1.alloc _)
    have F0 := Lib.hid (show Blk V0 (w.heap.size + 1) 4 #[.bool false] from by rw [← hV0]; exact d2.alloc _)
    have HB0 := Lib.hid (show Below w.heap.size w V0 from by rw [← hV0]; exact hB.alloc hB.size _)
    have G0 := Lib.hid (show Hollow V0 (some ⟨U, 0, none⟩) from .inr ⟨U, rfl, by rw [← hV0, hU]; exact Blk.new _ _ _⟩)
    have hD1 : V0.heap[D1]? = some (.deferred (some [])) := by rw [← hV0]; exact (Below.heap_alloc W _ D1 (Array.getElem?_eq_some_iff.1 hK).1).trans hK
    have lD1 := (Array.getElem?_eq_some_iff.1 hD1).1
    have HU := Lib.hid hU
    have HD1 := Lib.hid hD1
    clear d1 d2 hB hBB hK hD1 hU
    have xp : V0.cell? ⟨w.heap.size, 0, none⟩ = some (.int .i64 x.p) := X0.out.cell 0
    gi_wp2_with fail
    rw [← HU.out]
    clear hV0
    gi_wp2_with fail
    refine (callsIn_wide.2 (hFind G0.out _)).mono ?_
    rintro r w2 ⟨rfl, B2⟩
    have X2 := X0.out.below B2 X0.out.lt
    have F2 := F0.out.below B2 F0.out.lt
    have G2 := Lib.hid (G0.out.below B2)
    have hB2 := HB0.out.trans (B2.mono HB0.out.size)
    clear xp
    gi_wp2_with fail
    obtain ⟨W3, hW3⟩ : ∃ W3, w2.alloc (.cells z4 30) = W3 := ⟨_, rfl⟩
    have Y3 : Blk W3 w2.heap.size 30 z4 := by rw [← hW3]; exact Blk.new _ _ _
    have X3 : Blk W3 w.heap.size 30 x.cells.toArray := by rw [← hW3]; exact X2.alloc _
    have F3 : Blk W3 (w.heap.size + 1) 4 #[.bool false] := by rw [← hW3]; exact F2.alloc _
    have hB3 : Below w.heap.size w W3 := by rw [← hW3]; exact hB2.alloc hB2.size _
    have G3 := Lib.hid (show Hollow W3 (some ⟨U, 0, none⟩) from by rw [← hW3]; exact G2.out.below ((Below.refl _ _).alloc (Nat.le_refl _) _))
    have BV3 : Below V0.heap.size V0 W3 := by rw [← hW3]; exact B2.alloc B2.size _
    rw [hW3]
    clear hW3 X2 F2 G2 hB2 B2
    refine (callsIn_wide.2 (hDropAt G3.out 0 (by omega))).mono ?_
    rintro r w4 ⟨rfl, B4⟩
    have Y4 := Y3.below B4 Y3.lt
    have X4 := X3.below B4 X3.lt
    have F4 := F3.below B4 F3.lt
    have G4 := Lib.hid (G3.out.below B4)
    have hB4 := hB3.trans (B4.mono hB3.size)
    have BV4 := BV3.trans (B4.mono BV3.size)
    have v1 := Y4.rowOf
    have v2 := Y4.plain
    have v3 := Y4.lt
    have v4 := X4.rowOf
    have v5 := X4.plain
    have v6 := X4.lt
    have HX4 := Lib.hid X4
    have HF4 := Lib.hid F4
    have HB4 := Lib.hid hB4
    have HBV4 := Lib.hid BV4
    clear Y3 X3 F3 hB3 BV3 G3 B4 Y4 X4 F4 hB4 BV4
    gi_wp2_with fail
    have a4 : Below w4.heap.size w4 (w4.alloc (.cells z4 30)) := (Below.refl _ _).alloc (Nat.le_refl _) _
    refine (callsIn_wide.2 (hFill (G4.out.below a4) x)).mono ?_
    rintro r w5 ⟨rfl, B5⟩
    have B5' := a4.trans (B5.mono a4.size)
    clear v1 v2 v3 v4 v5 v6 a4 B5
    gi_wp2_with fail
    refine (callsIn_wide.2 (hDrop (G4.out.below B5') _ _)).mono ?_
    rintro r w6 ⟨rfl, B6⟩
    have B6' := B5'.trans (B6.mono B5'.size)
    clear B5' B6
    gi_wp2_with (first
      | (gi_at_call 14; refine (callsIn_wide.2 (hLen (G4.out.below B6'))).mono ?_; rintro r w7 ⟨rfl, rfl⟩)
      | (gi_at_call 19; refine (callsIn_wide.2 (all_any _ _)).mono ?_; rintro r w7 ⟨rfl, rfl⟩))
    obtain ⟨W8, hW8⟩ : ∃ W8, (w6.alloc (.cells #[.pointer (some ⟨U, 0, none⟩)] 23)).alloc (.cells #[.pointer (some ⟨U, 0, none⟩)] 23) = W8 := ⟨_, rfl⟩
    have hsz8 : W8.heap.size = w6.heap.size + 2 := by rw [← hW8]; simp
    have a68 : Below w6.heap.size w6 W8 := by rw [← hW8]; exact ((Below.refl _ _).alloc (Nat.le_refl _) _).alloc (by simp) _
    have a48 : Below w4.heap.size w4 W8 := B6'.trans (a68.mono B6'.size)
    have q1 : Blk W8 (w6.heap.size + 1) 23 #[.pointer (some ⟨U, 0, none⟩)] := by rw [← hW8]; exact Blk.new' _ _ (by simp)
    have X8 := HX4.out.below a48 HX4.out.lt
    have F8 := HF4.out.below a48 HF4.out.lt
    have G8 := G4.out.below a48
    have hB8 := HB4.out.trans (a48.mono HB4.out.size)
    have BV8 := HBV4.out.trans (a48.mono HBV4.out.size)
    rw [hW8]
    clear hW8 a68 a48 B6'
    refine rangeW (by omega) (gf := 31) (lb := #[.pointer (some ⟨w6.heap.size + 1, 0, none⟩)]) rfl (enters_of Try.func31 (by kernel_rfl) rfl)
      (n₀ := W8.heap.size) (Nat.le_refl _) (hAll1 9 (w6.heap.size + 1) W8.heap.size (some ⟨U, 0, none⟩) W8 q1 G8) (fun _ => rfl)
      (nI w x W8.heap.size W8) hX
      (fun t A B row hs hg hr => ⟨⟨blk_kept hs.1.1 hg hr, blk_kept hs.1.2 hg hr⟩, own_blw (by have := hB8.size; omega) hs.2.1 (Nat.le_refl _) hg hr, own_blw (Nat.le_refl _) hs.2.2 (Nat.le_refl _) hg hr⟩)
      (fun c t A B row hs _ _ => hs)
      ⟨⟨X8, F8⟩, hB8, Below.refl _ _⟩
      (fun T x a' W => True)
      (fun T x a' t A B row hs hg hr => trivial) ?assign ?body ?done ?stop
    case assign =>
      rintro l pre y W K hz ⟨⟨d1, d2⟩, hB, hBB⟩ hK
      gi_wp2
      exact hK _ _ ((KeepsOthers.refl W).from _) (Below.refl _ W) ⟨⟨d1, d2⟩, hB, hBB⟩ trivial
    case body =>
      intro l pre x a' W _ _ _ hlt
      exact absurd hlt (Nat.not_lt_zero _)
    case stop =>
      intro D c pre W _ _ _ h
      exact h.elim
    case done =>
      rintro D2 ys W hD hz rfl ⟨⟨d1, d2⟩, hB, hBB⟩ hK
      have hKD : W.heap[D1]? = some (.deferred (some [])) := (hBB.block D1 (Nat.lt_of_lt_of_le lD1 BV8.size)).trans ((BV8.block D1 lD1).trans HD1.out)
      have lt12 : D1 < D2 := Nat.lt_of_lt_of_le (Nat.lt_of_lt_of_le lD1 BV8.size) hD
      have D2F := Lib.hid d2
      clear X8 F8 G8 hB8 BV8 q1 HX4 HF4 HB4 HBV4 X0 F0 HB0 d1 d2
      gi_wp2_with fail
      rw [roundsIn_succ]
      gi_wp2_with fail
      refine (callsIn_wide.2 (awake_any _)).mono ?_
      rintro r w9 ⟨rfl, B9⟩
      have F9 := D2F.out.below B9 D2F.out.lt
      have k4 : w9.cell? ⟨w.heap.size + 1, 0, none⟩ = some (.bool false) := F9.cell 0
      have k5 : w9.frozen? ⟨w.heap.size + 1, 0, none⟩ = false := F9.frozen 0
      gi_wp2_with fail
      have hKO := (ko_below B9).trans (KeepsOthers.setCell w9 ⟨w.heap.size + 1, 0, none⟩ (.bool true))
      have v1 := hKO.same D1 _ hKD rfl
      have v2 := hKO.same D2 _ hK rfl
      have hM : Marked (w9.setCell ⟨w.heap.size + 1, 0, none⟩ (.bool true)) w.heap.size [D2, D1] :=
        ((Marked.nil _ _).cons (by omega) v1 (fun _ h => by cases h)).cons (by omega) v2 (fun E hE => by simp at hE; omega)
      have B7 : Below w.heap.size w (w9.setCell ⟨w.heap.size + 1, 0, none⟩ (.bool true)) := (hB.trans (B9.mono hB.size)).setCell (p := ⟨w.heap.size + 1, 0, none⟩) (by simp) _
      refine leaves_marks _ (by simp) _ [D2, D1] _ hM (fun w' hw' => ?_)
      exact ⟨_, results_cell1 rfl _ _ rfl (run_loadVar_one _ _ _ 4 4 _ _ _ ((F9.set_ 0 (.bool true)).past hM hw') Try.underlying4 rfl rfl), rfl, below_past B7 hM hw' B7.size⟩
theorem nobody (x : Tr) (w : World) :
    Calls Try.prog 6 #[x.val] w fun r w' => r = .returned (.bool true) ∧ Below w.heap.size w w' := callsIn_wide.1 (nobody_in x w)
end Go.Proofs.Ytgmmnekepelomaa
