/- Oplog: a log that nobody made. -/
import Derived.Test.YtjeikkecdgnkoaaOlM
namespace Go.Proofs.Ytjeikkecdgnkoaa
open Go.RowKit Go.Shelf
attribute [local go_sem] Oper.semAt_some
attribute [local go_sem ↓] ld35 st35 ld42
attribute [local go_sem] run_ld35 run_st35
attribute [local go_sem] cells_take cells_ones cells_size cells_extract putAt9

/-- No log, or one that New did not make. -/
def Hollow (w : World) (p : Option Addr) : Prop := p = none ∨ ∃ b, p = some ⟨b, 0, none⟩ ∧ Blk w b 48 #[.slice none 0 0, .int .i64 0, .int .i64 0]
theorem Hollow.below {w w' : World} {p : Option Addr} (h : Hollow w p) (hb : Below w.heap.size w w') : Hollow w' p := by
  rcases h with rfl | ⟨b, rfl, h⟩
  · exact .inl rfl
  · exact .inr ⟨b, rfl, h.below hb h.lt⟩
theorem Hollow.below_n {w w' : World} {p : Option Addr} {n : Nat} (h : Hollow w p) (hp : ∀ a, p = some a → a.block < n) (hb : Below n w w') : Hollow w' p := by
  rcases h with rfl | ⟨b, rfl, h⟩
  · exact .inl rfl
  · exact .inr ⟨b, rfl, h.below hb (hp _ rfl)⟩
theorem Hollow.lt {w : World} {p : Option Addr} (h : Hollow w p) : ∀ a, p = some a → a.block < w.heap.size := by
  rcases h with rfl | ⟨b, rfl, h⟩
  · intro a e; cases e
  · intro a e; cases e; exact h.lt
theorem hCap {w : World} {p : Option Addr} (h : Hollow w p) : Calls Try.prog 16 #[.pointer p] w fun e w' => e = .returned (.int .i64 0) ∧ w = w' := by
  rcases h with rfl | ⟨b, rfl, h⟩
  · exact cap_nil w
  · exact cap_blk w b _ _ _ _ _ h
theorem hHead {w : World} {p : Option Addr} (h : Hollow w p) : Calls Try.prog 13 #[.pointer p] w fun e w' => e = .returned (.int .i64 0) ∧ w = w' := by
  rcases h with rfl | ⟨b, rfl, h⟩
  · exact head_nil w
  · exact head_blk w b _ _ _ h
theorem hTail {w : World} {p : Option Addr} (h : Hollow w p) : Calls Try.prog 14 #[.pointer p] w fun e w' => e = .returned (.int .i64 0) ∧ w = w' := by
  rcases h with rfl | ⟨b, rfl, h⟩
  · exact tail_nil w
  · exact tail_blk w b _ _ _ h
theorem hAdv {w : World} {p : Option Addr} (h : Hollow w p) (to : Int) : Calls Try.prog 17 #[.pointer p, .int .i64 to] w fun e w' => e = .returned (.int .i64 1) ∧ w = w' := by
  rcases h with rfl | ⟨b, rfl, h⟩
  · exact adv_nil w to
  · exact adv_none w b _ _ _ _ to h
theorem hApp {w : World} {p : Option Addr} (h : Hollow w p) (x : Array Value) : Calls Try.prog 15 #[.pointer p, .agg x] w fun e w' => e = .returned (.tuple #[.int .i64 0, .int .i64 1]) ∧ Below w.heap.size w w' := by
  rcases h with rfl | ⟨b, rfl, h⟩
  · exact app_nil w x
  · exact app_none w b _ _ _ _ x h

abbrev hEnc (j : Nat) : Array Value := #[.int .i64 (j : Int), Ent.zero.val]
theorem hAll1 (n : Nat) (Bs n₀ : Nat) (p : Option Addr) (w0 : World) (hBs : Bs < w0.heap.size)
    (hbox : Blk w0 Bs 23 #[.pointer p]) (hL : Hollow w0 p) :
    SeqStopsK Fence.wide n Try.prog 23 #[.pointer (some ⟨Bs, 0, none⟩)] hEnc (Below n₀) (fun ys => ys = []) (fun _ => False) 0 w0 := fun l J Jx W hW hJ _ hY h0 => by
  have HL := Lib.hid (hL.below hW)
  have hb := hbox.below hW hBs
  have k0 : W.cell? ⟨Bs, 0, none⟩ = some (.pointer p) := hb.cell 0
  clear hL hbox hb
  refine callsIn_of_wp Try.func23 rfl trivial ?_ rfl
  simp only [Try.ntmps23, List.size_toArray, List.length_cons, List.length_nil, Nat.reduceAdd, Nat.reduceSub, Array.replicate_succ, Array.replicate_zero, List.push_toArray, List.append_toArray, List.nil_append, List.cons_append]
  gi_wp2_with (first
    | (gi_at_call 13; refine (callsIn_wide.2 (hHead HL.out)).mono ?_; rintro r w' ⟨rfl, rfl⟩)
    | (gi_at_call 14; refine (callsIn_wide.2 (hTail HL.out)).mono ?_; rintro r w' ⟨rfl, rfl⟩))
  refine wpIn_loop_rounds 1 ?_
  rw [roundsIn_succ]
  gi_wp2_with (first
    | (gi_at_call 13; refine (callsIn_wide.2 (hHead HL.out)).mono ?_; rintro r w' ⟨rfl, rfl⟩)
    | (gi_at_call 14; refine (callsIn_wide.2 (hTail HL.out)).mono ?_; rintro r w' ⟨rfl, rfl⟩))
  go_end0
  exact ⟨⟨_, rfl⟩, .inl ⟨_, rfl, h0⟩⟩

/-- While nothing is told. -/
def hI (w : World) (_ : List Nat) (W : World) : Prop :=
  (Blk W (w.heap.size + 1) 35 Ent.zero.cells.toArray ∧ Blk W (w.heap.size + 1 + 1) 4 #[.bool false]) ∧ Below w.heap.size w W
def hX (_ : Code) (_ : List Nat) (_ : World) : Prop := False

set_option maxRecDepth 100000 in
set_option maxHeartbeats 2000000 in
theorem hAt_in (p : Option Addr) (i : Int) (w : World) (hL : Hollow w p) :
    CallsIn Fence.wide 9 Try.prog 10 #[.pointer p, .int .i64 i] w fun r w' => r = .returned (atV none) ∧ Below w.heap.size w w' := by
  have HL := Lib.hid hL; clear hL
  refine callsIn_of_wp_marks Try.func10 rfl trivial ?_ rfl
  simp only [Try.ntmps10, List.size_toArray, List.length_cons, List.length_nil, Nat.reduceAdd, Nat.reduceSub, Array.replicate_succ, Array.replicate_zero, List.push_toArray, List.append_toArray, List.nil_append, List.cons_append]
  gi_wp2_with (gi_at_call 18; refine (callsIn_wide.2 (all_any _ _)).mono ?_; rintro r w' ⟨rfl, rfl⟩)
  obtain ⟨W0, hW0⟩ : ∃ W0, (((w.alloc (.cells #[.int .i64 i] 3)).alloc (.cells Ent.zero.cells.toArray 35)).alloc (.cells #[.bool false] 4)).alloc (.cells #[.pointer p] 23) = W0 := ⟨_, rfl⟩
  have hsz : W0.heap.size = w.heap.size + 4 := by rw [← hW0]; simp
  have b2 : Blk W0 (w.heap.size + 1) 35 Ent.zero.cells.toArray := by rw [← hW0]; exact ((Blk.new' _ _ (by simp)).alloc _).alloc _
  have b3 : Blk W0 (w.heap.size + 1 + 1) 4 #[.bool false] := by rw [← hW0]; exact (Blk.new' _ _ (by simp)).alloc _
  have b4 : Blk W0 (w.heap.size + 1 + 1 + 1) 23 #[.pointer p] := by rw [← hW0]; exact Blk.new' _ _ (by simp)
  have hB0 : Below w.heap.size w W0 := by rw [← hW0]; exact ((((Below.refl _ w).alloc (Nat.le_refl _) _).alloc (by simp) _).alloc (by simp; omega) _).alloc (by simp; omega) _
  rw [show ((((w.alloc (.cells #[.int .i64 i] 3)).alloc (.cells #[.int .i64 0, .int .i64 0, .int .i64 0, .int .i64 0, .int .i64 0, .int .i64 0, .int .i64 0, .int .i64 0, .int .i64 0] 35)).alloc (.cells #[.bool false] 4)).alloc (.cells #[.pointer p] 23)) = W0 from hW0]
  clear hW0
  refine rangeW (by omega) (gf := 23) (lb := #[.pointer (some ⟨w.heap.size + 1 + 1 + 1, 0, none⟩)]) rfl (enters_of Try.func23 (by kernel_rfl) rfl)
    (n₀ := w.heap.size + 4) (by omega) (hAll1 8 (w.heap.size + 1 + 1 + 1) (w.heap.size + 4) p W0 (by omega) b4 (HL.out.below hB0)) (fun _ => rfl)
    (hI w) hX
    (fun t A B row hs hg hr => ⟨⟨blk_kept hs.1.1 hg hr, blk_kept hs.1.2 hg hr⟩, own_blw (by omega) hs.2 (Nat.le_refl _) hg hr⟩)
    (fun c t A B row hs _ _ => hs)
    ⟨⟨b2, b3⟩, hB0⟩
    (fun T x a' W => True)
    (fun T x a' t A B row hs hg hr => trivial) ?assign ?body ?done ?stop
  case assign =>
    rintro l pre x W K hz ⟨⟨d1, d2⟩, hB⟩ hK
    gi_wp2
    refine hK _ _ ((KeepsOthers.alloc W _).from _) ((Below.refl _ W).alloc (by omega) _) ⟨⟨d1.alloc _, d2.alloc _⟩, hB.alloc hB.size _⟩ trivial
  case body =>
    intro l pre x a' W _ _ _ hlt
    exact absurd hlt (Nat.not_lt_zero _)
  case stop =>
    intro D c pre W _ _ h
    exact h.elim
  case done =>
    rintro D ys W hD hz rfl ⟨⟨c2, c3⟩, hB⟩ hK
    have k2 := c2.rowOf
    have k3 := c2.plain
    have k4 : W.cell? ⟨w.heap.size + 1 + 1, 0, none⟩ = some (.bool false) := c3.cell 0
    have k5 : W.frozen? ⟨w.heap.size + 1 + 1, 0, none⟩ = false := c3.frozen 0
    have hz9 : ones #[Value.int .i64 0, .int .i64 0, .int .i64 0, .int .i64 0, .int .i64 0, .int .i64 0, .int .i64 0, .int .i64 0, .int .i64 0] = true := cells_ones Ent.zero
    have hsz9 : Ent.zero.cells.toArray.size = 9 := rfl
    gi_wp2
    have d2 : Blk ((W.setRow (w.heap.size + 1) (putAt Ent.zero.cells.toArray 0 Ent.zero.cells)).setCell ⟨w.heap.size + 1 + 1, 0, none⟩ (.bool false)) (w.heap.size + 1) 35 Ent.zero.cells.toArray := (c2.row_ _).far (by simp) _
    have d3 : Blk ((W.setRow (w.heap.size + 1) (putAt Ent.zero.cells.toArray 0 Ent.zero.cells)).setCell ⟨w.heap.size + 1 + 1, 0, none⟩ (.bool false)) (w.heap.size + 1 + 1) 4 #[.bool false] := (c3.farRow (by omega) _).set_ 0 _
    have hK' := ((blk_keepsOthers _ (putAt Ent.zero.cells.toArray 0 Ent.zero.cells) c2).trans (KeepsOthers.setCell _ ⟨w.heap.size + 1 + 1, 0, none⟩ (.bool false))).same D _ hK rfl
    refine ⟨by simp, .inl ⟨_, _, rfl, run_takeDeferred hK', ?_⟩⟩
    exact ⟨_, results_cell2 rfl _ _ rfl rfl (run_loadVar_blk _ _ _ 35 35 _ _ 9 (blk_putObj d2 hK' rfl) Try.underlying35 rfl (by kernel_rfl) (by simp)) (run_loadVar_one _ _ _ 4 4 _ _ _ (blk_putObj d3 hK' rfl) Try.underlying4 rfl rfl), rfl,
      below_putObj ((Below.setRow hB (by omega) _).setCell (by simp; omega) _) (by omega) _⟩
theorem hAt {p : Option Addr} {w : World} (h : Hollow w p) (i : Int) :
    Calls Try.prog 10 #[.pointer p, .int .i64 i] w fun r w' => r = .returned (atV none) ∧ Below w.heap.size w w' := callsIn_wide.1 (hAt_in p i w h)
end Go.Proofs.Ytjeikkecdgnkoaa
