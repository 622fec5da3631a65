/- Tlb: Find. -/
import Derived.Test.YtgmmnekepelomaaTlE
import Derived.Deep.RegionHeld3
import Derived.Stop.RegionWithIn
namespace Go.Proofs.Ytgmmnekepelomaa
open Go.RowKit Go.Shelf
attribute [local go_sem] Oper.semAt_some
attribute [local go_sem ↓] ld30 st30
attribute [local go_sem] run_ld30 run_st30 tr_ones tr_size tr_take tr_extract tr_put tr_put' tr_len

/-- Has it a page? -/
def Tr.has (x : Tr) (p : Int) : Bool := decide (x.p ≤ p) && decide (p < x.stop)
def Tl.find (s : Tl) (p : Int) : Option Tr := s.l.find? (·.has p)
def findV : Option Tr → Value
  | some x => .tuple #[x.val, .bool true]
  | none => .tuple #[(default : Tr).val, .bool false]
theorem find_none {s : Tl} {p : Int} (h : ∀ j ∈ List.range s.l.length, (s.tr j).has p = false) : s.find p = none := by
  unfold Tl.find
  rw [List.find?_eq_none]
  intro x hx
  obtain ⟨j, hj, rfl⟩ := List.getElem_of_mem hx
  have := h j (List.mem_range.2 hj)
  unfold Tl.tr at this
  rw [List.getElem?_eq_getElem hj] at this
  simpa using this
theorem find_some {s : Tl} {p : Int} {k : Nat} (hk : k < s.l.length) (h : ∀ j ∈ List.range k, (s.tr j).has p = false) (hx : (s.tr k).has p = true) : s.find p = some (s.tr k) := by
  unfold Tl.find
  rw [List.find?_eq_some_iff_getElem]
  have e : s.tr k = s.l[k] := by unfold Tl.tr; rw [List.getElem?_eq_getElem hk]; rfl
  refine ⟨hx, k, hk, e.symm, fun j hj => ?_⟩
  have := h j (List.mem_range.2 hj)
  unfold Tl.tr at this
  rw [List.getElem?_eq_getElem (by omega)] at this
  simpa using this

theorem end_b (x : Tr) (w : World) (h1 : 0 ≤ x.p) (h2 : x.p < 4096) : Calls Try.prog 25 #[x.val] w fun r w' => r = .returned (.int .i64 x.stop) ∧ Below w.heap.size w w' := by
  obtain ⟨p, f, m, h0⟩ := x
  simp only at h1 h2
  unfold Tr.stop Tr.val Tr.cells
  cases h0
  all_goals
    go_enter Try.func25, Try.ntmps25
    go_wp2
    go_ret
    exact ⟨rfl, (Below.refl _ _).alloc (Nat.le_refl _) _⟩
theorem tr_lo {s : Tl} (ok : s.ok) (j : Nat) : 0 ≤ (s.tr j).p := by
  unfold Tl.tr
  by_cases h : j < s.l.length
  · rw [List.getElem?_eq_getElem h]; exact Tr.may_lo (ok.m _ (List.getElem_mem h))
  · rw [List.getElem?_eq_none (by omega)]; exact Int.le_refl 0
theorem tr_hi {s : Tl} (ok : s.ok) (j : Nat) : (s.tr j).p < 4096 := by
  unfold Tl.tr
  by_cases h : j < s.l.length
  · rw [List.getElem?_eq_getElem h]; exact Tr.may_hi (ok.m _ (List.getElem_mem h))
  · rw [List.getElem?_eq_none (by omega)]; decide
theorem ko_below {W W' : World} (h : Below W.heap.size W W') : KeepsOthers W W' :=
  ⟨h.size, fun k _ hk _ => (h.block k (Array.getElem?_eq_some_iff.1 hk).1).trans hk⟩
theorem calls_round {P : Program} {f : FuncId} {args : Array Value} {w : World} {R : Ending → World → Prop} (h : Calls P f args w R) (l : Nat) {n : Nat} : CallsIn (Fence.wide.inRound l) n P f args w R := CallsIn.inRound l (callsIn_wide.2 h)
/-- Between two of them. -/
def fdI (w : World) (s : Tl) (p : Int) (pre : List Nat) (W : World) : Prop :=
  (Blk W w.heap.size 3 #[.int .i64 p] ∧ Blk W (w.heap.size + 1) 30 (default : Tr).cells.toArray ∧ Blk W (w.heap.size + 2) 4 #[.bool false]) ∧ Below w.heap.size w W ∧ ∀ j ∈ pre, (s.tr j).has p = false
/-- It was found. -/
def fdX (w : World) (s : Tl) (p : Int) (c : Code) (pre : List Nat) (W : World) : Prop :=
  c = .ret ∧ ∃ (q : List Nat) (x : Nat), pre = q ++ [x] ∧ (∀ j ∈ q, (s.tr j).has p = false) ∧ (s.tr x).has p = true ∧ (Blk W (w.heap.size + 1) 30 (s.tr x).cells.toArray ∧ Blk W (w.heap.size + 2) 4 #[.bool true]) ∧ Below w.heap.size w W

set_option maxRecDepth 100000 in
set_option maxHeartbeats 4000000 in
theorem find_in (w : World) (b : Nat) (s : Tl) (p : Int) (hS : TlAt w b s) :
    CallsIn Fence.wide 9 Try.prog 11 #[.pointer (some ⟨b, 0, none⟩), .int .i64 p] w fun r w' => r = .returned (findV (s.find p)) ∧ Below w.heap.size w w' := by
  have hb := hS.lt
  have HS := Lib.hid hS
  clear hS
  refine callsIn_of_wp_marks Try.func11 rfl trivial ?_ rfl
  simp only [Try.ntmps11, List.size_toArray, List.length_cons, List.length_nil, Nat.reduceAdd, Nat.reduceSub, Array.replicate_succ, Array.replicate_zero, List.push_toArray, List.append_toArray, List.nil_append, List.cons_append]
  gi_wp2_with (gi_at_call 19; refine (callsIn_wide.2 (all_any _ _)).mono ?_; rintro r w7 ⟨rfl, rfl⟩)
  obtain ⟨W1, hW1⟩ : ∃ W1, (((w.alloc (.cells #[.int .i64 p] 3)).alloc (.cells #[.int .i64 0, .int .i64 0, .int .i64 0, .bool false] 30)).alloc (.cells #[.bool false] 4)).alloc (.cells #[.pointer (some ⟨b, 0, none⟩)] 23) = W1 := ⟨_, rfl⟩
  have hsz1 : W1.heap.size = w.heap.size + 4 := by rw [← hW1]; simp
  have B1 : Below w.heap.size w W1 := by rw [← hW1]; exact ((((Below.refl _ w).alloc (Nat.le_refl _) _).alloc (by simp) _).alloc (by simp; omega) _).alloc (by simp; omega) _
  have a1 : Blk W1 w.heap.size 3 #[.int .i64 p] := by rw [← hW1]; exact (((Blk.new' _ _ (by simp)).alloc _).alloc _).alloc _
  have a2 : Blk W1 (w.heap.size + 1) 30 (default : Tr).cells.toArray := by rw [← hW1]; exact ((Blk.new' _ _ (by simp)).alloc _).alloc _
  have a3 : Blk W1 (w.heap.size + 2) 4 #[.bool false] := by rw [← hW1]; exact (Blk.new' _ _ (by simp)).alloc _
  have q1 : Blk W1 (w.heap.size + 3) 23 #[.pointer (some ⟨b, 0, none⟩)] := by rw [← hW1]; exact Blk.new' _ _ (by simp)
  rw [hW1]
  clear hW1
  refine rangeW (by omega) (gf := 31) (lb := #[.pointer (some ⟨w.heap.size + 1 + 1 + 1, 0, none⟩)]) rfl (enters_of Try.func31 (by kernel_rfl) rfl)
    (n₀ := w.heap.size + 4) (by omega) (all1_stops 8 (w.heap.size + 3) (w.heap.size + 4) b s w W1 (by omega) B1 (by omega) q1 HS.out) (fun _ => rfl)
    (fdI w s p) (fdX w s p)
    (fun t A B row hs hg hr => ⟨⟨blk_kept hs.1.1 hg hr, blk_kept hs.1.2.1 hg hr, blk_kept hs.1.2.2 hg hr⟩, own_blw (by omega) hs.2.1 (Nat.le_refl _) hg hr, hs.2.2⟩)
    (fun c t A B row hs hg hr => by
      obtain ⟨h0, q, x, h1, h2, h3, ⟨h4, h5⟩, h6⟩ := hs
      exact ⟨h0, q, x, h1, h2, h3, ⟨blk_kept h4 hg hr, blk_kept h5 hg hr⟩, own_blw (by omega) h6 (Nat.le_refl _) hg hr⟩)
    ⟨⟨a1, a2, a3⟩, B1, fun _ h => (by cases h)⟩
    (fun T x a' W => ∃ Bx, w.heap.size + 4 ≤ Bx ∧ Blk W Bx 30 (s.tr x).cells.toArray ∧ a' = { tmps := ((T.setIfInBounds 9 (s.tr x).val).setIfInBounds 6 (.pointer (some ⟨Bx, 0, none⟩))), defers := [] })
    (fun T x a' t A B row hs hg hr => by obtain ⟨Bx, h1, h2, h3⟩ := hs; exact ⟨Bx, h1, blk_kept h2 hg hr, h3⟩) ?assign ?body ?done ?stop
  case assign =>
    rintro l pre x W2 K hz ⟨⟨d1, d2, d3⟩, hB, hn⟩ hK
    gi_wp2
    exact hK _ _ ((KeepsOthers.alloc W2 _).from _) ((Below.refl _ W2).alloc (by omega) _) ⟨⟨d1.alloc _, d2.alloc _, d3.alloc _⟩, hB.alloc hB.size _, hn⟩ ⟨W2.heap.size, by omega, Blk.new _ _ _, rfl⟩
  case body =>
    rintro l pre x a' W2 hz ⟨⟨d1, d2, d3⟩, hB, hn⟩ ⟨Bx, hBx, bX, rfl⟩ hlt
    simp only [List.setIfInBounds_toArray, List.set_cons_zero, List.set_cons_succ]
    have hlo := tr_lo HS.out.ok x
    have hhi := tr_hi HS.out.ok x
    have hend : ∀ W, Calls Try.prog 25 #[(s.tr x).val] W fun r w' => r = .returned (.int .i64 (s.tr x).stop) ∧ Below W.heap.size W w' := fun W => end_b _ W hlo hhi
    have k1 : W2.cell? ⟨w.heap.size, 0, none⟩ = some (.int .i64 p) := d1.cell 0
    have k2 : W2.cell? ⟨Bx, 0, none⟩ = some (.int .i64 (s.tr x).p) := bX.cell 0
    have r1 := bX.rowOf
    have r2 := bX.plain
    have lx := bX.lt
    have D1 := Lib.hid d1
    have D2 := Lib.hid d2
    have D3 := Lib.hid d3
    have HN := Lib.hid hn
    have BX := Lib.hid bX
    obtain ⟨y, hy⟩ : ∃ y, s.tr x = y := ⟨_, rfl⟩
    obtain ⟨sp, hsp⟩ : ∃ sp, y.stop = sp := ⟨_, rfl⟩
    rw [hy] at hend hlo hhi k2 r1 ⊢
    rw [hsp] at hend
    have HE := Lib.hid hend
    have HY := Lib.hid hy
    have HSP := Lib.hid hsp
    clear hend hy hsp d1 d2 d3 hn bX a1 a2 a3 q1
    by_cases h1 : y.p ≤ p
    · by_cases h2 : p < sp
      · have r3 := D2.out.rowOf
        have r4 := D2.out.plain
        have k3 : W2.cell? ⟨w.heap.size + 2, 0, none⟩ = some (.bool false) := D3.out.cell 0
        have k4 : W2.frozen? ⟨w.heap.size + 2, 0, none⟩ = false := D3.out.frozen 0
        have l1 := D1.out.lt
        have l2 := D2.out.lt
        have l3 := D3.out.lt
        gi_wp2_with fail
        refine Code.wpIn_mono NoPanic.imp ?_
        gi_region_with ((gi_at_call 25; refine (calls_round (HE.out _) l).mono ?_; rintro r w5 ⟨rfl, B5⟩; have e5 : w5.cell? ⟨w.heap.size, 0, none⟩ = some (.int .i64 p) := (B5.cell (p := ⟨w.heap.size, 0, none⟩) l1).trans k1))
        all_goals refine NoPanic.normal ?_
        all_goals
          have hb5 : Below W2.heap.size W2 w5 := (Below.refl _ _).drew.trans B5
          have f1 := D1.out.below hb5 l1
          have f2 := D2.out.below hb5 l2
          have f3 := D3.out.below hb5 l3
          have fx := BX.out.below hb5 lx
          rw [HY.out] at fx
          have F1 := Lib.hid f1
          have F2 := Lib.hid f2
          have F3 := Lib.hid f3
          have HB5 := Lib.hid hb5
          have v1 := fx.rowOf
          have v2 := fx.plain
          have v3 := f2.rowOf
          have v4 := f2.plain
          have v5 : w5.cell? ⟨w.heap.size + 2, 0, none⟩ = some (.bool false) := f3.cell 0
          have v6 : w5.frozen? ⟨w.heap.size + 2, 0, none⟩ = false := f3.frozen 0
          clear r1 r2 r3 r4 k1 k2 k3 k4 e5 B5 hb5 f1 f2 f3 fx
          gi_wp2_with fail
          refine ⟨(((ko_below HB5.out).trans (blk_keepsOthers _ _ F2.out)).trans (KeepsOthers.setCell _ _ _)).from _, rfl, pre, x, rfl, HN.out, ?_, ⟨?_, ?_⟩, ?_⟩
          · rw [HY.out]; unfold Tr.has; rw [HSP.out]; simp [h1, h2]
          · rw [HY.out]; exact (F2.out.row_ _).far (p := ⟨w.heap.size + 2, 0, none⟩) (by simp) _
          · exact (F3.out.farRow (by simp) _).set_ 0 _
          · exact (Below.setRow (hB.trans (HB5.out.mono hB.size)) (by omega) _).setCell (p := ⟨w.heap.size + 2, 0, none⟩) (by simp) _
      · have e2 : decide (p < sp) = false := by simpa using h2
        have l1 := D1.out.lt
        have l2 := D2.out.lt
        have l3 := D3.out.lt
        clear h2
        gi_wp2_with fail
        refine Code.wpIn_mono NoPanic.imp ?_
        gi_region_with ((gi_at_call 25; refine (calls_round (HE.out _) l).mono ?_; rintro r w5 ⟨rfl, B5⟩; have e5 : w5.cell? ⟨w.heap.size, 0, none⟩ = some (.int .i64 p) := (B5.cell (p := ⟨w.heap.size, 0, none⟩) l1).trans k1))
        all_goals refine NoPanic.normal ?_
        all_goals
          have hb5 : Below W2.heap.size W2 w5 := (Below.refl _ _).drew.trans B5
          have f1 := D1.out.below hb5 l1
          have f2 := D2.out.below hb5 l2
          have f3 := D3.out.below hb5 l3
          have fx := BX.out.below hb5 lx
          rw [HY.out] at fx
          have F1 := Lib.hid f1
          have F2 := Lib.hid f2
          have F3 := Lib.hid f3
          have HB5 := Lib.hid hb5
          clear r1 r2 k1 k2 e5 B5 hb5 f1 f2 f3 fx
          gi_wp2_with fail
          refine ⟨(ko_below HB5.out).from _, HB5.out.mono (by omega), ⟨F1.out, F2.out, F3.out⟩, hB.trans (HB5.out.mono hB.size), fun j hj => ?_⟩
          rcases List.mem_append.1 hj with hj | hj
          · exact HN.out j hj
          · obtain rfl : j = x := by simpa using hj
            rw [HY.out]; unfold Tr.has; rw [HSP.out]; simp [e2]
    · have e1 : decide (y.p ≤ p) = false := by simpa using h1
      clear h1
      gi_wp2_with fail
      refine wpIn_region_stG (wide_round l _) 9 (by kernel_rfl) (by kernel_rfl) (by kernel_rfl) ?_
      simp only [List.take_succ_cons, List.take_zero, List.drop_succ_cons, List.drop_zero]
      repeat (first
        | (refine StG.skipU rfl (by simp only [Act.put, List.setIfInBounds_toArray, List.set_cons_zero, List.set_cons_succ]; rfl) ?_)
        | (refine StG.want rfl (fun K hK => ?_); go_simp; (try go_bits); refine hK _ ?_; clear hK K))
      refine StG.nil ?_
      gi_wp2_with fail
      refine ⟨(KeepsOthers.drew _).from _, (Below.refl _ _).drew, ⟨D1.out.drew, D2.out.drew, D3.out.drew⟩, hB.drew, fun j hj => ?_⟩
      rcases List.mem_append.1 hj with hj | hj
      · exact HN.out j hj
      · obtain rfl : j = x := by simpa using hj
        rw [HY.out]; unfold Tr.has; simp [e1]
  case done =>
    rintro D ys W2 hD hz rfl ⟨⟨d1, d2, d3⟩, hB, hn⟩ hK
    have hf := find_none hn
    have r1 := d2.rowOf
    have r2 := d2.plain
    have hput : putAt (default : Tr).cells.toArray 0 [.int .i64 0, .int .i64 0, .int .i64 0, .bool false] = (default : Tr).cells.toArray := rfl
    have hones : ones #[.int .i64 0, .int .i64 0, .int .i64 0, .bool false] = true := by simp [ones, Value.oneCell']
    have k3 : W2.cell? ⟨w.heap.size + 2, 0, none⟩ = some (.bool false) := d3.cell 0
    have k4 : W2.frozen? ⟨w.heap.size + 2, 0, none⟩ = false := d3.frozen 0
    have HF := Lib.hid hf
    have D2 := Lib.hid d2
    have D3 := Lib.hid d3
    clear hf hn d1 d2 d3 a1 a2 a3 q1
    gi_wp2_with fail
    have hK1 := (blk_keepsOthers (w.heap.size + 1) (default : Tr).cells.toArray D2.out).same D _ hK rfl
    have hK' := (KeepsOthers.setCell _ ⟨w.heap.size + 2, 0, none⟩ (.bool false)).same D _ hK1 rfl
    rw [HF.out]
    refine ⟨by simp, .inl ⟨_, _, rfl, run_takeDeferred hK', ?_⟩⟩
    exact ⟨_, results_cell2 rfl _ _ rfl rfl (run_loadVar_blk _ _ _ 30 30 _ _ 4 (blk_putObj ((D2.out.row_ _).far (by simp) _) hK' rfl) Try.underlying30 rfl (by kernel_rfl) (by decide)) (run_loadVar_one _ _ _ 4 4 _ _ _ (blk_putObj ((D3.out.farRow (by simp) _).set_ 0 (.bool false)) hK' rfl) Try.underlying4 rfl rfl), rfl, below_putObj ((Below.setRow hB (by omega) _).setCell (by simp; omega) _) (by omega) _⟩
  case stop =>
    rintro D c pre W2 hD hz ⟨k, hk, rfl⟩ ⟨rfl, q, x, h1, h2, h3, ⟨d2, d3⟩, hB⟩ hK
    gi_wp2_with fail
    have hkx : k = q.length + 1 := by
      have := congrArg List.length h1
      simpa using this
    rw [hkx, List.range_succ] at h1
    obtain ⟨hq, h4⟩ := List.append_inj' h1 rfl
    have hx : x = q.length := by simpa using h4.symm
    have hf := find_some (s := s) (p := p) (k := x) (by omega) (by rw [hx, hq]; exact h2) h3
    rw [hf]
    refine ⟨by simp, .inl ⟨_, _, rfl, run_takeDeferred hK, ?_⟩⟩
    exact ⟨_, results_cell2 rfl _ _ rfl rfl (run_loadVar_blk _ _ _ 30 30 _ _ 4 (blk_putObj d2 hK rfl) Try.underlying30 rfl (by kernel_rfl) (Nat.le_refl 4)) (run_loadVar_one _ _ _ 4 4 _ _ _ (blk_putObj d3 hK rfl) Try.underlying4 rfl rfl), rfl, below_putObj hB (by omega) _⟩
theorem find_st (w : World) (b : Nat) (s : Tl) (p : Int) (hS : TlAt w b s) :
    Calls Try.prog 11 #[.pointer (some ⟨b, 0, none⟩), .int .i64 p] w fun r w' => r = .returned (findV (s.find p)) ∧ Below w.heap.size w w' := callsIn_wide.1 (find_in w b s p hS)
end Go.Proofs.Ytgmmnekepelomaa
