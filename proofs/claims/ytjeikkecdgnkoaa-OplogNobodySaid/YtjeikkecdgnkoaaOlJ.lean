/- Oplog: Is. -/
import Derived.Test.YtjeikkecdgnkoaaOlI
namespace Go.Proofs.Ytjeikkecdgnkoaa
open Go.RowKit Go.Shelf
attribute [local go_sem] Oper.semAt_some
attribute [local go_sem ↓] ld35 st35 ld42
attribute [local go_sem] run_ld35 run_st35
attribute [local go_sem] cells_take cells_ones cells_size cells_extract putAt9

theorem neq35 (x : Ent) (w : World) : (binOp .neq 35 (.agg x.cells.toArray) (.agg x.cells.toArray)).run Try.prog w = .ok (.bool false) w := by
  obtain ⟨a0, a1, a2, a3, a4, a5, a6, a7, a8⟩ := x
  simp only [Ent.cells]
  go_simp
theorem eql35 (x : Ent) (w : World) : (binOp .eql 35 (.agg x.cells.toArray) (.agg x.cells.toArray)).run Try.prog w = .ok (.bool true) w := by
  obtain ⟨a0, a1, a2, a3, a4, a5, a6, a7, a8⟩ := x
  simp only [Ent.cells]
  go_simp
attribute [local go_sem high] neq35 eql35

/-- Between two rounds of Is. -/
def isI (w : World) (br first : Nat) (pre : List Nat) (W : World) : Prop :=
  (Blk W w.heap.size 24 #[.pointer (some ⟨br, 0, none⟩)] ∧ Blk W (w.heap.size + 1) 4 #[.bool false] ∧ Blk W (w.heap.size + 3) 3 #[.int .i64 ((first + pre.length : Nat) : Int)]) ∧ Below w.heap.size w W
/-- A round of Is was left: it was not the next one. -/
def isX (c : Code) (pre : List Nat) (_ : World) : Prop := c = .ret ∧ ∃ (p : List Nat) (x : Nat), pre = p ++ [x] ∧ x ≠ p.length

set_option maxRecDepth 100000 in
set_option maxHeartbeats 4000000 in
theorem is_in (w : World) (base b e br : Nat) (v : Value) (s : Ol) (hlen : s.l.length < 9223372036854775807) (hL : LogAt w b e s) (hR : RefAt w base br v s) :
    CallsIn Fence.wide 9 Try.prog 8 #[.pointer (some ⟨b, 0, none⟩), .pointer (some ⟨br, 0, none⟩)] w fun r w' => r = .returned (.bool true) ∧ Below w.heap.size w w' := by
  have hb := hL.hb.lt
  have he : e < w.heap.size := by obtain ⟨_, _, cs, hc, _⟩ := hL; exact hc.lt
  have hbr := hR.hb.lt
  obtain ⟨va, vc, rfl⟩ := own_form hR.hv
  have hsf := hL.ok.f
  have HL := Lib.hid hL; clear hL
  have HR := Lib.hid hR; clear hR
  have hfn : ∀ (x : Fn) (y z : Array Value) (w : World), (binOp .eql 54 (.func x y z) .nilFunc).run Try.prog w = .ok (.bool false) w := fun _ _ _ _ => by kernel_rfl
  refine callsIn_of_wp_marks Try.func8 rfl trivial ?_ rfl
  simp only [Try.ntmps8, List.size_toArray, List.length_cons, List.length_nil, Nat.reduceAdd, Nat.reduceSub, Array.replicate_succ, Array.replicate_zero, List.push_toArray, List.append_toArray, List.nil_append, List.cons_append]
  gi_wp2_with (gi_at_call 18; refine (callsIn_wide.2 (all_any _ _)).mono ?_; rintro r w' ⟨rfl, rfl⟩)
  obtain ⟨W0, hW0⟩ : ∃ W0, ((w.alloc (.cells #[.pointer (some ⟨br, 0, none⟩)] 24)).alloc (.cells #[.bool false] 4)).alloc (.cells #[.pointer (some ⟨b, 0, none⟩)] 23) = W0 := ⟨_, rfl⟩
  have hsz : W0.heap.size = w.heap.size + 3 := by rw [← hW0]; simp
  have b1 : Blk W0 w.heap.size 24 #[.pointer (some ⟨br, 0, none⟩)] := by rw [← hW0]; exact ((Blk.new' _ _ (by simp)).alloc _).alloc _
  have b2 : Blk W0 (w.heap.size + 1) 4 #[.bool false] := by rw [← hW0]; exact (Blk.new' _ _ (by simp)).alloc _
  have b3 : Blk W0 (w.heap.size + 1 + 1) 23 #[.pointer (some ⟨b, 0, none⟩)] := by rw [← hW0]; exact Blk.new' _ _ (by simp)
  have hB0 : Below w.heap.size w W0 := by rw [← hW0]; exact (((Below.refl _ w).alloc (Nat.le_refl _) _).alloc (by simp) _).alloc (by simp; omega) _
  rw [hW0]
  have hL0 := HL.out.below hB0
  have hR0 := HR.out.below hB0
  have HL0 := Lib.hid hL0
  have k1 : W0.cell? ⟨w.heap.size, 0, none⟩ = some (.pointer (some ⟨br, 0, none⟩)) := b1.cell 0
  have k2 : W0.cell? ⟨br, 0, none⟩ = some (.int .i64 s.slots) := hR0.hb.cell 0
  have k3 : W0.cell? ⟨br, 1, none⟩ = some (.int .i64 s.first) := hR0.hb.cell 1
  have k4 : W0.cell? ⟨br, 2, none⟩ = some (.slice va s.l.length vc) := hR0.hb.cell 2
  clear hW0 hL0 hR0
  refine wpIn_region_stG (wide_wide 9) 29 (by kernel_rfl) (by kernel_rfl) (by kernel_rfl) ?_
  simp only [List.take_succ_cons, List.take_zero, List.drop_succ_cons, List.drop_zero]
  repeat (first
    | (refine StG.skip rfl rfl ?_)
    | (refine StG.want rfl (fun K hK => ?_); go_simp; (try go_bits); refine hK _ ?_; clear hK K)
    | (refine StG.want rfl (fun K hK => ?_); go_simp; refine ⟨_, (head_blk _ _ _ _ _ HL0.out.drew.hb).mono (fun _ _ h => ⟨h.1, h.2.symm⟩), hK _ ?_⟩; clear hK K)
    | (refine StG.want rfl (fun K hK => ?_); go_simp; refine ⟨_, (tail_blk _ _ _ _ _ HL0.out.drew.hb).mono (fun _ _ h => ⟨h.1, h.2.symm⟩), hK _ ?_⟩; clear hK K)
    | (refine StG.want rfl (fun K hK => ?_); go_simp; refine ⟨_, (cap_blk _ _ _ _ _ _ _ HL0.out.drew.hb).mono (fun _ _ h => ⟨h.1, h.2.symm⟩), hK _ ?_⟩; clear hK K))
  refine StG.nil ?_
  gi_wp2
  obtain ⟨W1, hW1⟩ : ∃ W1, (W0.alloc (.cells #[.int .i64 s.first] 3)).drew = W1 := ⟨_, rfl⟩
  have hsz1 : W1.heap.size = w.heap.size + 4 := by rw [← hW1]; simp; omega
  have c1 : Blk W1 w.heap.size 24 #[.pointer (some ⟨br, 0, none⟩)] := by rw [← hW1]; exact (b1.alloc _).drew
  have c2 : Blk W1 (w.heap.size + 1) 4 #[.bool false] := by rw [← hW1]; exact (b2.alloc _).drew
  have c3 : Blk W1 (w.heap.size + 1 + 1) 23 #[.pointer (some ⟨b, 0, none⟩)] := by rw [← hW1]; exact (b3.alloc _).drew
  have c4 : Blk W1 (w.heap.size + 3) 3 #[.int .i64 s.first] := by rw [← hW1]; exact (Blk.new' _ _ (by omega)).drew
  have hB1 : Below w.heap.size w W1 := by rw [← hW1]; exact (hB0.alloc (by omega) _).drew
  rw [hW1]
  clear hW1 k1 k2 k3 k4 b1 b2 b3 HL0
  refine rangeW (by omega) (gf := 23) (lb := #[.pointer (some ⟨w.heap.size + 1 + 1, 0, none⟩)]) rfl (enters_of Try.func23 (by kernel_rfl) rfl)
    (n₀ := w.heap.size + 3) (by omega) (all1_stops 8 (w.heap.size + 1 + 1) (w.heap.size + 3) b e s W1 hlen (by omega) (by omega) (by omega) (by omega) c3 (HL.out.below hB1)) (fun _ => rfl)
    (isI w br s.first) isX
    (fun t A B row hs hg hr => ⟨⟨blk_kept hs.1.1 hg hr, blk_kept hs.1.2.1 hg hr, blk_kept hs.1.2.2 hg hr⟩, own_blw (by omega) hs.2 (Nat.le_refl _) hg hr⟩)
    (fun c t A B row hs _ _ => hs)
    ⟨⟨c1, c2, c4⟩, hB1⟩
    (fun T x a' W => ∃ Bx, w.heap.size + 4 ≤ Bx ∧ Blk W Bx 35 (s.en x).cells.toArray ∧ a' = { tmps := (((T.setIfInBounds 46 (.int .i64 (s.ix x : Int))).setIfInBounds 47 (s.en x).val).setIfInBounds 7 (.int .i64 (s.ix x : Int))).setIfInBounds 8 (.pointer (some ⟨Bx, 0, none⟩)), defers := [] })
    (fun T x a' t A B row hs hg hr => by obtain ⟨Bx, h1, h2, h3⟩ := hs; exact ⟨Bx, h1, blk_kept h2 hg hr, h3⟩) ?assign ?body ?done ?stop
  case assign =>
    rintro l pre x W K hz ⟨⟨d1, d2, d4⟩, hB⟩ hK
    gi_wp2
    refine hK _ _ ((KeepsOthers.alloc W _).from _) ((Below.refl _ W).alloc (by omega) _) ⟨⟨d1.alloc _, d2.alloc _, d4.alloc _⟩, hB.alloc hB.size _⟩ ⟨W.heap.size, by omega, Blk.new _ _ _, rfl⟩
  case body =>
    rintro l pre x a' W hz ⟨⟨d1, d2, d4⟩, hB⟩ ⟨Bx, hBx, bX, rfl⟩ hlt
    simp only [List.setIfInBounds_toArray, List.set_cons_zero, List.set_cons_succ]
    have hR1 := HR.out.below hB
    have k1 : W.cell? ⟨w.heap.size, 0, none⟩ = some (.pointer (some ⟨br, 0, none⟩)) := d1.cell 0
    have k2 : W.cell? ⟨w.heap.size + 1, 0, none⟩ = some (.bool false) := d2.cell 0
    have k3 : W.frozen? ⟨w.heap.size + 1, 0, none⟩ = false := d2.frozen 0
    have k4 : W.cell? ⟨br, 2, none⟩ = some (.slice va s.l.length vc) := hR1.hb.cell 2
    obtain ⟨k, hk⟩ : ∃ k, k = s.first + pre.length := ⟨_, rfl⟩
    have k5 : W.cell? ⟨w.heap.size + 3, 0, none⟩ = some (.int .i64 (k : Int)) := by rw [hk]; exact d4.cell 0
    have k6 : W.frozen? ⟨w.heap.size + 3, 0, none⟩ = false := d4.frozen 0
    have D1 := Lib.hid d1
    have D2 := Lib.hid d2
    have D4 := Lib.hid d4
    have HK := Lib.hid hk
    clear d1 d2 d4
    by_cases hx : x = pre.length
    · have hkl : k < s.l.length := by omega
      obtain ⟨g, cap, cur, hv, hg, hcur, hfit⟩ := own_entry hR1.hv hkl
      injection hv with hv1 _ hv2
      subst hv1
      have e1 : s.ix x = k := by unfold Ol.ix; omega
      have e2 : s.en x = s.l[k] := by unfold Ol.en; rw [show s.first + x = k by omega, List.getElem?_eq_getElem hkl]; rfl
      rw [e1, e2]
      rw [e2] at bX
      have r1 := hg.rowOf
      have r2 := hg.plain
      have r3 := bX.rowOf
      have r4 := bX.plain
      have hk0 : (0 : Int) ≤ (k : Int) := Int.natCast_nonneg _
      have hk1 : (k : Int) < (s.l.length : Int) := by omega
      have hk2 : decide (s.l.length ≤ k) = false := by simpa using hkl
      have HX := Lib.hid hx
      clear hx hk e1 e2 hg bX hR1 hv2
      gi_wp2_with (first
        | (refine wpIn_region_stG (wide_round l _) 22 (by kernel_rfl) (by kernel_rfl) (by kernel_rfl) ?_
           simp only [List.take_succ_cons, List.take_zero, List.drop_succ_cons, List.drop_zero]
           repeat (first | (refine StG.skip rfl rfl ?_) | (refine StG.want rfl (fun K hK => ?_); go_simp; (try go_bits); refine hK _ ?_; clear hK K))
           refine StG.nil ?_))
      refine ⟨((KeepsOthers.setCell _ _ _).trans (KeepsOthers.drew _)).from _, ((Below.refl (w.heap.size + 3) W).setCell (p := ⟨w.heap.size + 3, 0, none⟩) (Nat.le_refl _) _).drew, ⟨D1.out.far (by simp) _, D2.out.far (by simp) _, ?_⟩, (hB.setCell (p := ⟨w.heap.size + 3, 0, none⟩) (by simp) _).drew⟩
      rw [List.length_append, List.length_singleton, ← Nat.add_assoc, ← HK.out]
      exact D4.out.set_ 0 _
    · have hne0 : ¬ (s.ix x : Int) = (k : Int) := by unfold Ol.ix; omega
      have hne : ((s.ix x : Int) != (k : Int)) = true := by simpa using hne0
      have hne1 : ((s.ix x : Int) == (k : Int)) = false := by simpa using hne0
      have HX := Lib.hid hx
      clear hx hk hR1 bX
      gi_wp2_with (first
        | (refine wpIn_region_stG (wide_round l _) 22 (by kernel_rfl) (by kernel_rfl) (by kernel_rfl) ?_
           simp only [List.take_succ_cons, List.take_zero, List.drop_succ_cons, List.drop_zero]
           repeat (first | (refine StG.skip rfl rfl ?_) | (refine StG.want rfl (fun K hK => ?_); go_simp; (try go_bits); refine hK _ ?_; clear hK K))
           refine StG.nil ?_))
      exact ⟨((KeepsOthers.setCell _ _ _).trans (KeepsOthers.drew _)).from _, rfl, pre, x, rfl, HX.out⟩
  case done =>
    rintro D ys W hD hz rfl ⟨⟨d1, d2, d4⟩, hB⟩ hK
    rw [List.length_range, show s.first + (s.l.length - s.first) = s.l.length by omega] at d4
    have hR1 := HR.out.below hB
    have k1 : W.cell? ⟨w.heap.size, 0, none⟩ = some (.pointer (some ⟨br, 0, none⟩)) := d1.cell 0
    have k2 : W.cell? ⟨w.heap.size + 1, 0, none⟩ = some (.bool false) := d2.cell 0
    have k3 : W.frozen? ⟨w.heap.size + 1, 0, none⟩ = false := d2.frozen 0
    have k4 : W.cell? ⟨br, 2, none⟩ = some (.slice va s.l.length vc) := hR1.hb.cell 2
    have k5 : W.cell? ⟨w.heap.size + 3, 0, none⟩ = some (.int .i64 (s.l.length : Int)) := d4.cell 0
    clear hR1
    gi_wp2_with (first
      | (refine wpIn_region_stG (wide_wide _) 7 (by kernel_rfl) (by kernel_rfl) (by kernel_rfl) ?_
         simp only [List.take_succ_cons, List.take_zero, List.drop_succ_cons, List.drop_zero]
         repeat (first | (refine StG.skip rfl rfl ?_) | (refine StG.want rfl (fun K hK => ?_); go_simp; (try go_bits); refine hK _ ?_; clear hK K))
         refine StG.nil ?_))
    have hK' := ((KeepsOthers.setCell W ⟨w.heap.size + 1, 0, none⟩ (.bool true)).trans (KeepsOthers.drew _)).same D _ hK rfl
    refine ⟨by simp, .inl ⟨_, _, rfl, run_takeDeferred hK', ?_⟩⟩
    exact ⟨_, results_cell1 rfl _ _ rfl (run_loadVar_one _ _ _ 4 4 _ _ _ (blk_putObj ((d2.set_ 0 (.bool true)).drew) hK' rfl) Try.underlying4 rfl rfl), rfl, below_putObj (hB.setCell (p := ⟨w.heap.size + 1, 0, none⟩) (by simp) _).drew (by omega) _⟩
  case stop =>
    rintro D c pre W hD hz ⟨k, hk, rfl⟩ ⟨rfl, p, x, h1, h2⟩ hK
    exfalso
    have hl : (List.range k).length = p.length + 1 := by rw [h1]; simp
    rw [List.length_range] at hl
    subst hl
    rw [List.range_succ] at h1
    have := (List.append_inj' h1 rfl).2
    simp at this
    omega

theorem is_st (w : World) (n0 base b e br : Nat) (s : Ol) (hlen : s.l.length < 9223372036854775807) (h : St w n0 base b e br s) :
    Calls Try.prog 8 #[.pointer (some ⟨b, 0, none⟩), .pointer (some ⟨br, 0, none⟩)] w fun r w' => r = .returned (.bool true) ∧ Below w.heap.size w w' := by
  obtain ⟨L, ⟨v, R⟩, _⟩ := h
  exact callsIn_wide.1 (is_in w base b e br v s hlen L R)
end Go.Proofs.Ytjeikkecdgnkoaa
