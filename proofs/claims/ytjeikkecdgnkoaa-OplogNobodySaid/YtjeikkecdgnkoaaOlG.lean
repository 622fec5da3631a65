/- Oplog: At. -/
import Derived.Test.YtjeikkecdgnkoaaOlF
namespace Go.Proofs.Ytjeikkecdgnkoaa
open Go.RowKit Go.Shelf
attribute [local go_sem] Oper.semAt_some
attribute [local go_sem ↓] ld35 st35 ld42
attribute [local go_sem] run_ld35 run_st35

def Ent.zero : Ent := ⟨0, 0, 0, 0, 0, 0, 0, 0, 0⟩
/-- What At tells. -/
def Ol.get (s : Ol) (i : Int) : Option Ent := if (s.first : Int) ≤ i ∧ i < s.l.length then s.l[i.toNat]? else none
def atV : Option Ent → Value
  | some x => .tuple #[x.val, .bool true]
  | none => .tuple #[Ent.zero.val, .bool false]

theorem cells_ones (x : Ent) : ones x.cells.toArray = true := by unfold ones; rw [Array.all_eq_true_iff_forall_mem]; intro v hv; exact x.one v (by simpa using hv)
theorem cells_size (x : Ent) : x.cells.toArray.size = 9 := rfl
theorem cells_extract (x : Ent) : x.cells.toArray.extract 0 9 = x.cells.toArray := rfl
theorem putAt9 (x : Ent) (a b c d e f g h i : Value) : putAt #[a, b, c, d, e, f, g, h, i] 0 x.cells = x.cells.toArray := rfl
theorem cells_take (x : Ent) : List.take 9 x.cells = x.cells := rfl
attribute [local go_sem] cells_take cells_ones cells_size cells_extract putAt9

set_option maxRecDepth 100000 in
set_option maxHeartbeats 2000000 in
theorem at_in (b e : Nat) (s : Ol) (i : Int) (w : World) (hlen : s.l.length < 9223372036854775807) (hL : LogAt w b e s) :
    CallsIn Fence.wide 9 Try.prog 10 #[.pointer (some ⟨b, 0, none⟩), .int .i64 i] w fun r w' => r = .returned (atV (s.get i)) ∧ Below w.heap.size w w' := by
  have hb := hL.hb.lt
  have he : e < w.heap.size := by obtain ⟨_, _, cs, hc, _⟩ := hL; exact hc.lt
  have HL := Lib.hid hL; clear hL
  refine callsIn_of_wp_marks Try.func10 rfl trivial ?_ rfl
  simp only [Try.ntmps10, List.size_toArray, List.length_cons, List.length_nil, Nat.reduceAdd, Nat.reduceSub, Array.replicate_succ, Array.replicate_zero, List.push_toArray, List.append_toArray, List.nil_append, List.cons_append]
  gi_wp2_with (gi_at_call 18; refine (callsIn_wide.2 (all_any _ _)).mono ?_; rintro r w' ⟨rfl, rfl⟩)
  obtain ⟨W0, hW0⟩ : ∃ W0, (((w.alloc (.cells #[.int .i64 i] 3)).alloc (.cells Ent.zero.cells.toArray 35)).alloc (.cells #[.bool false] 4)).alloc (.cells #[.pointer (some ⟨b, 0, none⟩)] 23) = W0 := ⟨_, rfl⟩
  have hsz : W0.heap.size = w.heap.size + 4 := by rw [← hW0]; simp
  have b1 : Blk W0 w.heap.size 3 #[.int .i64 i] := by rw [← hW0]; exact (((Blk.new' _ _ (by simp)).alloc _).alloc _).alloc _
  have b2 : Blk W0 (w.heap.size + 1) 35 Ent.zero.cells.toArray := by rw [← hW0]; exact ((Blk.new' _ _ (by simp)).alloc _).alloc _
  have b3 : Blk W0 (w.heap.size + 1 + 1) 4 #[.bool false] := by rw [← hW0]; exact (Blk.new' _ _ (by simp)).alloc _
  have b4 : Blk W0 (w.heap.size + 1 + 1 + 1) 23 #[.pointer (some ⟨b, 0, none⟩)] := by rw [← hW0]; exact Blk.new' _ _ (by simp)
  have hB0 : Below w.heap.size w W0 := by rw [← hW0]; exact ((((Below.refl _ w).alloc (Nat.le_refl _) _).alloc (by simp) _).alloc (by simp; omega) _).alloc (by simp; omega) _
  rw [show ((((w.alloc (.cells #[.int .i64 i] 3)).alloc (.cells #[.int .i64 0, .int .i64 0, .int .i64 0, .int .i64 0, .int .i64 0, .int .i64 0, .int .i64 0, .int .i64 0, .int .i64 0] 35)).alloc (.cells #[.bool false] 4)).alloc (.cells #[.pointer (some ⟨b, 0, none⟩)] 23)) = W0 from hW0]
  clear hW0
  refine wpIn_rangeFunc_ownH rfl (by omega) (gf := 23) (lb := #[.pointer (some ⟨w.heap.size + 1 + 1 + 1, 0, none⟩)]) rfl trivial (enters_of Try.func23 (by kernel_rfl) rfl)
    (all1_stops 8 (w.heap.size + 1 + 1 + 1) W0.heap.size b e s W0 hlen (by omega) (by omega) (by omega) (Nat.le_refl _) b4 (HL.out.below hB0)) belowK_t (belowK_b (by omega)) (Below.refl _ _) (fun _ => rfl)
    (fun pre W => (W0.heap.size ≤ W.heap.size ∧ ∀ p ∈ pre, (s.ix p : Int) ≠ i) ∧ (Blk W w.heap.size 3 #[.int .i64 i] ∧ Blk W (w.heap.size + 1) 35 Ent.zero.cells.toArray ∧ Blk W (w.heap.size + 1 + 1) 4 #[.bool false]) ∧ Below w.heap.size w W)
    (fun c pre W => (c = .ret ∧ ∃ p ∈ pre, (s.ix p : Int) = i ∧ Blk W (w.heap.size + 1) 35 (s.en p).cells.toArray ∧ Blk W (w.heap.size + 1 + 1) 4 #[.bool true]) ∧ Below w.heap.size w W)
    (fun s A B row hs hg hr => ⟨⟨Nat.le_trans hs.1.1 hg.size, hs.1.2⟩, ⟨blk_kept hs.2.1.1 hg hr, blk_kept hs.2.1.2.1 hg hr, blk_kept hs.2.1.2.2 hg hr⟩, ownFrom_below (β := Unit) (B := W0.heap.size) (Nat.le_refl _) (by omega) () A B row hs.2.2 hg hr⟩)
    (fun c s A B row hs hg hr => ⟨⟨hs.1.1, by obtain ⟨p, hp, h1, h2, h3⟩ := hs.1.2; exact ⟨p, hp, h1, blk_kept h2 hg hr, blk_kept h3 hg hr⟩⟩, ownFrom_below (β := Unit) (B := W0.heap.size) (Nat.le_refl _) (by omega) () A B row hs.2 hg hr⟩)
    ⟨⟨Nat.le_refl _, fun _ h => by simp at h⟩, ⟨b1, b2, b3⟩, hB0⟩
    (fun x a' W => ∃ Bx, w.heap.size + 3 ≤ Bx ∧ Blk W Bx 35 (s.en x).cells.toArray ∧ a' = { tmps := #[.pointer (some ⟨b, 0, none⟩), .int .i64 i, undef, .pointer (some ⟨w.heap.size, 0, none⟩), .pointer (some ⟨w.heap.size + 1, 0, none⟩), .pointer (some ⟨w.heap.size + 1 + 1, 0, none⟩),
      .int .i64 (s.ix x : Int), .pointer (some ⟨Bx, 0, none⟩), .pointer (some ⟨b, 0, none⟩), .func (.func 23) #[] #[.pointer (some ⟨w.heap.size + 1 + 1 + 1, 0, none⟩)], .int .i64 (s.ix x : Int), (s.en x).val, undef, undef, undef, undef, undef], defers := [] })
    (fun x a' s A B row hs hg hr => by obtain ⟨Bx, h1, h2, h3⟩ := hs; exact ⟨Bx, h1, blk_kept h2 hg hr, h3⟩) ?assign ?body ?done ?stop
  case assign =>
    rintro l pre x W K ⟨⟨hz, h1⟩, ⟨c1, c2, c3⟩, hB⟩ hK
    have z3 := c3.lt
    gi_wp2
    refine hK _ _ ((KeepsOthers.alloc W _).from _) ((Below.refl _ W).alloc hz _)
      ⟨⟨by simp; omega, h1⟩, ⟨c1.alloc _, c2.alloc _, c3.alloc _⟩, hB.alloc hB.size _⟩ ⟨W.heap.size, by omega, Blk.new _ _ _, rfl⟩
  case body =>
    rintro l pre x a' W hl ⟨r, hr⟩ ⟨⟨hz, h1⟩, ⟨c1, c2, c3⟩, hB⟩ ⟨Bx, hBx, bX, rfl⟩ hlt
    have k1 : W.cell? ⟨w.heap.size, 0, none⟩ = some (.int .i64 i) := c1.cell 0
    have k2 := c2.rowOf
    have k3 := c2.plain
    have k4 : W.cell? ⟨w.heap.size + 1 + 1, 0, none⟩ = some (.bool false) := c3.cell 0
    have k5 : W.frozen? ⟨w.heap.size + 1 + 1, 0, none⟩ = false := c3.frozen 0
    have k6 := bX.rowOf
    have k7 := bX.plain
    have C1 := Lib.hid c1
    have C2 := Lib.hid c2
    have C3 := Lib.hid c3
    clear c1 c2 c3 bX
    by_cases hx : (s.ix x : Int) = i
    · have hxb : ((s.ix x : Int) == i) = true := by simpa using hx
      have HX := Lib.hid hx; clear hx
      have e9 : putAt Ent.zero.cells.toArray 0 (s.en x).cells = (s.en x).cells.toArray := rfl
      gi_wp2
      refine ⟨((blk_keepsOthers _ _ C2.out).trans (KeepsOthers.setCell _ _ _)).from _, ⟨rfl, x, by simp, HX.out, ?_, ?_⟩, ?_⟩
      · exact (C2.out.row_ _).far (by simp) _
      · exact (C3.out.farRow (by omega) _).set_ 0 _
      · exact (Below.setRow hB (by omega) _).setCell (by simp; omega) _
    · have hxb : ((s.ix x : Int) == i) = false := by simpa using hx
      have HX := Lib.hid hx; clear hx
      gi_wp2
      exact ⟨(KeepsOthers.refl _).from _, Below.refl _ _, ⟨hz, fun p hp => by
        rcases List.mem_append.1 hp with hp | hp
        · exact h1 p hp
        · simp only [List.mem_singleton] at hp; subst hp; exact HX.out⟩, ⟨C1.out, C2.out, C3.out⟩, hB⟩
  case done =>
    rintro D ys W hD rfl ⟨⟨hz, h1⟩, ⟨c1, c2, c3⟩, hB⟩ hK
    have k2 := c2.rowOf
    have k3 := c2.plain
    have k4 : W.cell? ⟨w.heap.size + 1 + 1, 0, none⟩ = some (.bool false) := c3.cell 0
    have k5 : W.frozen? ⟨w.heap.size + 1 + 1, 0, none⟩ = false := c3.frozen 0
    have hz9 : ones #[Value.int .i64 0, .int .i64 0, .int .i64 0, .int .i64 0, .int .i64 0, .int .i64 0, .int .i64 0, .int .i64 0, .int .i64 0] = true := cells_ones Ent.zero
    have hsz9 : Ent.zero.cells.toArray.size = 9 := rfl
    gi_wp2
    have d2 : Blk ((W.setRow (w.heap.size + 1) (putAt Ent.zero.cells.toArray 0 Ent.zero.cells)).setCell ⟨w.heap.size + 1 + 1, 0, none⟩ (.bool false)) (w.heap.size + 1) 35 Ent.zero.cells.toArray := (c2.row_ _).far (by simp) _
    have d3 : Blk ((W.setRow (w.heap.size + 1) (putAt Ent.zero.cells.toArray 0 Ent.zero.cells)).setCell ⟨w.heap.size + 1 + 1, 0, none⟩ (.bool false)) (w.heap.size + 1 + 1) 4 #[.bool false] := (c3.farRow (by omega) _).set_ 0 _
    have hK' := ((blk_keepsOthers _ (putAt Ent.zero.cells.toArray 0 Ent.zero.cells) c2).trans (KeepsOthers.setCell _ ⟨w.heap.size + 1 + 1, 0, none⟩ (.bool false))).same D _ hK rfl
    refine ⟨by simp, .inl ⟨_, _, rfl, run_takeDeferred hK', ?_⟩⟩
    refine ⟨_, results_cell2 rfl _ _ rfl rfl (run_loadVar_blk _ _ _ 35 35 _ _ 9 (blk_putObj d2 hK' rfl) Try.underlying35 rfl (by kernel_rfl) (by simp)) (run_loadVar_one _ _ _ 4 4 _ _ _ (blk_putObj d3 hK' rfl) Try.underlying4 rfl rfl), ?_,
      below_putObj ((Below.setRow hB (by omega) _).setCell (by simp; omega) _) (by omega) _⟩
    have hg : s.get i = none := by
      unfold Ol.get
      split
      · rename_i hh
        exfalso
        refine h1 (i.toNat - s.first) (List.mem_range.2 (by omega)) (by unfold Ol.ix; omega)
      · rfl
    rw [hg]
    rfl
  case stop =>
    rintro D c pre W hD hpre ⟨⟨rfl, p, hp, h1, h2, h3⟩, hB⟩ hK
    gi_wp2
    refine ⟨by simp, .inl ⟨_, _, rfl, run_takeDeferred hK, ?_⟩⟩
    refine ⟨_, results_cell2 rfl _ _ rfl rfl (run_loadVar_blk _ _ _ 35 35 _ _ 9 (blk_putObj h2 hK rfl) Try.underlying35 rfl (by kernel_rfl) (by simp)) (run_loadVar_one _ _ _ 4 4 _ _ _ (blk_putObj h3 hK rfl) Try.underlying4 rfl rfl), ?_,
      below_putObj hB (by omega) _⟩
    obtain ⟨k, hk, rfl⟩ := hpre
    have hp' := List.mem_range.1 hp
    unfold Ol.ix at h1
    have hg : s.get i = some (s.en p) := by
      unfold Ol.get Ol.en
      rw [if_pos (by omega), show i.toNat = s.first + p by omega, List.getElem?_eq_getElem (by omega)]
      rfl
    rw [hg]
    rfl

theorem at_log (b e : Nat) (s : Ol) (i : Int) (w : World) (hlen : s.l.length < 9223372036854775807) (hL : LogAt w b e s) :
    Calls Try.prog 10 #[.pointer (some ⟨b, 0, none⟩), .int .i64 i] w fun r w' => r = .returned (atV (s.get i)) ∧ Below w.heap.size w w' := callsIn_wide.1 (at_in b e s i w hlen hL)
end Go.Proofs.Ytjeikkecdgnkoaa
