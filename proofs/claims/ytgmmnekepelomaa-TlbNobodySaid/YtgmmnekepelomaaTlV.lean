/- Tlb: the law Nobody, walked. -/
import Derived.Test.YtgmmnekepelomaaTlR
namespace Go.Proofs.Ytgmmnekepelomaa
open Go.RowKit Go.Shelf
attribute [local go_sem] Oper.semAt_some
attribute [local go_sem ↓] ld30 st30 bs38 ld32
attribute [local go_sem] run_ld30 run_st30 tr_ones tr_size tr_take tr_extract tr_put tr_put' tr_len run_bs38

abbrev z4 : Array Value := #[.int .i64 0, .int .i64 0, .int .i64 0, .bool false]
/-- No buffer, or one that New did not make. -/
def Hollow (w : World) (p : Option Addr) : Prop := p = none ∨ ∃ b, p = some ⟨b, 0, none⟩ ∧ Blk w b 50 tlb0
theorem Hollow.below {w w' : World} {p : Option Addr} (h : Hollow w p) (hb : Below w.heap.size w w') : Hollow w' p := by
  rcases h with rfl | ⟨b, rfl, h⟩
  · exact .inl rfl
  · exact .inr ⟨b, rfl, h.below hb h.lt⟩
theorem hLen {w : World} {p : Option Addr} (h : Hollow w p) : Calls Try.prog 14 #[.pointer p] w fun r w' => r = .returned (.int .i64 0) ∧ w = w' := by
  rcases h with rfl | ⟨b, rfl, h⟩
  · exact len_nil w
  · exact len_blk w b 0 _ h tlb0_257
theorem hFill {w : World} {p : Option Addr} (h : Hollow w p) (x : Tr) : Calls Try.prog 15 #[.pointer p, x.val] w fun r w' => r = .returned (.int .i64 1) ∧ Below w.heap.size w w' := by
  rcases h with rfl | ⟨b, rfl, h⟩
  · exact fill_nil w x
  · exact fill_zero w b _ x h tlb0_258
theorem hDropAt {w : World} {p : Option Addr} (h : Hollow w p) (i : Int) (hi : 0 ≤ i) : Calls Try.prog 18 #[.pointer p, .int .i64 i] w fun r w' => r = .returned (.tuple #[.agg z4, .bool false]) ∧ Below w.heap.size w w' := by
  rcases h with rfl | ⟨b, rfl, h⟩
  · exact dropAt_nil w i
  · exact dropAt_no w b 0 _ i h tlb0_257 (.inr (by omega))
theorem tlb0_set : tlb0.setIfInBounds 257 (.int .i64 0) = tlb0 := by
  apply Array.ext
  · simp
  · intro i h1 h2
    rw [Array.getElem_setIfInBounds]
    split
    · rename_i e
      subst e
      have := tlb0_257
      rw [Array.getElem?_eq_getElem h2] at this
      simpa using this.symm
    · rfl
theorem hKeep {w : World} {b : Nat} (f : Value) (h : Blk w b 50 tlb0) : Calls Try.prog 28 #[.pointer (some ⟨b, 0, none⟩), f] w fun r w' => r = .returned (.int .i64 0) ∧ w.setCell ⟨b, 257, none⟩ (.int .i64 0) = w' := by
  have c0 : w.cell? ⟨b, 257, none⟩ = some (.int .i64 0) := (h.cell 257).trans tlb0_257
  have f0 : w.frozen? ⟨b, 257, none⟩ = false := h.frozen 257
  clear h
  go_enter Try.func28, Try.ntmps28
  go_wp2_with fail
  refine wp_loop_rounds 1 ?_
  rw [rounds_succ]
  go_wp2_with fail
  go_ret
  exact ⟨rfl, rfl⟩
/-- Whatever lies in w lies, but for a block that is as it was. -/
theorem hDrop {w : World} {p : Option Addr} (h : Hollow w p) (f t : Int) : Calls Try.prog 17 #[.pointer p, .int .i64 f, .int .i64 t] w fun r w' => r = .returned (.int .i64 0) ∧ Below w.heap.size w w' := by
  rcases h with rfl | ⟨b, rfl, h⟩
  · exact drop_nil w f t
  · have hmf : ∀ (fn : Fn) (first cap : Array Value) (w : World), (Instr.makeFunc fn first cap).run Try.prog w = .ok (.func fn first cap) w := fun _ _ _ _ => rfl
    have hb := h.lt
    have H := Lib.hid h
    clear h
    go_enter Try.func17, Try.ntmps17
    go_wp2_with (go_at_call 28; refine (hKeep _ ((H.out.alloc _).alloc _)).mono ?_; rintro r w1 ⟨rfl, rfl⟩)
    go_ret
    refine ⟨rfl, ?_⟩
    have B2 : Below w.heap.size w (w.setCell ⟨b, 257, none⟩ (.int .i64 0)) := by
      refine ⟨rfl, rfl, rfl, by simp [World.setCell], fun k hk => ?_⟩
      by_cases e : k = b
      · subst e
        have h3 := H.out.set_ 257 (.int .i64 0)
        rw [tlb0_set] at h3
        exact h3.trans H.out.symm
      · exact Below.heap_setCell _ ⟨b, 257, none⟩ _ k e
    exact (B2.alloc (by simp) _).alloc (by simp) _

abbrev hEnc (_ : Nat) : Array Value := #[.agg z4]
theorem hAll1 (n B1 n₀ : Nat) (p : Option Addr) (w0 : World) (hb1 : Blk w0 B1 23 #[.pointer p]) (hL : Hollow w0 p) :
    SeqStopsK Fence.wide n Try.prog 31 #[.pointer (some ⟨B1, 0, none⟩)] hEnc (Below n₀) (fun ys => ys = []) (fun _ => False) 0 w0 := fun l J Jx W hW hJ _ hY h0 => by
  have HL := Lib.hid (hL.below hW)
  have k0 : W.cell? ⟨B1, 0, none⟩ = some (.pointer p) := (hb1.below hW hb1.lt).cell 0
  clear hL hb1
  refine callsIn_of_wp Try.func31 rfl trivial ?_ rfl
  simp only [Try.ntmps31, List.size_toArray, List.length_cons, List.length_nil, Nat.reduceAdd, Nat.reduceSub, Array.replicate_succ, Array.replicate_zero, List.push_toArray, List.append_toArray, List.nil_append, List.cons_append]
  gi_wp2_with (gi_at_call 14; refine (callsIn_wide.2 (hLen HL.out)).mono ?_; rintro r w' ⟨rfl, rfl⟩)
  refine wpIn_loop_rounds 1 ?_
  rw [roundsIn_succ]
  gi_wp2_with fail
  go_end0
  exact ⟨⟨_, rfl⟩, .inl ⟨_, rfl, h0⟩⟩

def hX (_ : Code) (_ : List Nat) (_ : World) : Prop := False
def fI (w : World) (p : Int) (_ : List Nat) (W : World) : Prop :=
  (Blk W w.heap.size 3 #[.int .i64 p] ∧ Blk W (w.heap.size + 1) 30 z4 ∧ Blk W (w.heap.size + 2) 4 #[.bool false]) ∧ Below w.heap.size w W
set_option maxRecDepth 100000 in
set_option maxHeartbeats 4000000 in
theorem hFind_in (w : World) (q : Option Addr) (p : Int) (hS : Hollow w q) :
    CallsIn Fence.wide 9 Try.prog 11 #[.pointer q, .int .i64 p] w fun r w' => r = .returned (.tuple #[.agg z4, .bool false]) ∧ Below w.heap.size w w' := by
  have hput : putAt z4 0 [.int .i64 0, .int .i64 0, .int .i64 0, .bool false] = z4 := rfl
  have hones : ones z4 = true := by simp [ones, Value.oneCell']
  have HS := Lib.hid hS
  clear hS
  refine callsIn_of_wp_marks Try.func11 rfl trivial ?_ rfl
  simp only [Try.ntmps11, List.size_toArray, List.length_cons, List.length_nil, Nat.reduceAdd, Nat.reduceSub, Array.replicate_succ, Array.replicate_zero, List.push_toArray, List.append_toArray, List.nil_append, List.cons_append]
  gi_wp2_with (gi_at_call 19; refine (callsIn_wide.2 (all_any _ _)).mono ?_; rintro r w7 ⟨rfl, rfl⟩)
  obtain ⟨W1, hW1⟩ : ∃ W1, (((w.alloc (.cells #[.int .i64 p] 3)).alloc (.cells #[.int .i64 0, .int .i64 0, .int .i64 0, .bool false] 30)).alloc (.cells #[.bool false] 4)).alloc (.cells #[.pointer q] 23) = W1 := ⟨_, rfl⟩
  have hsz1 : W1.heap.size = w.heap.size + 4 := by rw [← hW1]; simp
  have B1 : Below w.heap.size w W1 := by rw [← hW1]; exact ((((Below.refl _ w).alloc (Nat.le_refl _) _).alloc (by simp) _).alloc (by simp; omega) _).alloc (by simp; omega) _
  have a1 : Blk W1 w.heap.size 3 #[.int .i64 p] := by rw [← hW1]; exact (((Blk.new' _ _ (by simp)).alloc _).alloc _).alloc _
  have a2 : Blk W1 (w.heap.size + 1) 30 z4 := by rw [← hW1]; exact ((Blk.new' _ _ (by simp)).alloc _).alloc _
  have a3 : Blk W1 (w.heap.size + 2) 4 #[.bool false] := by rw [← hW1]; exact (Blk.new' _ _ (by simp)).alloc _
  have q1 : Blk W1 (w.heap.size + 3) 23 #[.pointer q] := by rw [← hW1]; exact Blk.new' _ _ (by simp)
  rw [hW1]
  clear hW1
  refine rangeW (by omega) (gf := 31) (lb := #[.pointer (some ⟨w.heap.size + 1 + 1 + 1, 0, none⟩)]) rfl (enters_of Try.func31 (by kernel_rfl) rfl)
    (n₀ := W1.heap.size) (Nat.le_refl _) (hAll1 8 (w.heap.size + 3) W1.heap.size q W1 q1 (HS.out.below B1)) (fun _ => rfl)
    (fI w p) hX
    (fun t A B row hs hg hr => ⟨⟨blk_kept hs.1.1 hg hr, blk_kept hs.1.2.1 hg hr, blk_kept hs.1.2.2 hg hr⟩, own_blw (by omega) hs.2 (Nat.le_refl _) hg hr⟩)
    (fun c t A B row hs _ _ => hs)
    ⟨⟨a1, a2, a3⟩, B1⟩
    (fun T x a' W => True)
    (fun T x a' t A B row hs hg hr => trivial) ?assign ?body ?done ?stop
  case assign =>
    rintro l pre x W2 K hz ⟨⟨d1, d2, d3⟩, hB⟩ hK
    gi_wp2
    exact hK _ _ ((KeepsOthers.alloc W2 _).from _) ((Below.refl _ W2).alloc (by omega) _) ⟨⟨d1.alloc _, d2.alloc _, d3.alloc _⟩, hB.alloc hB.size _⟩ trivial
  case body =>
    intro l pre x a' W _ _ _ hlt
    exact absurd hlt (Nat.not_lt_zero _)
  case stop =>
    intro D c pre W _ _ _ h
    exact h.elim
  case done =>
    rintro D ys W2 hD hz rfl ⟨⟨d1, d2, d3⟩, hB⟩ hK
    have r1 := d2.rowOf
    have r2 := d2.plain
    have k3 : W2.cell? ⟨w.heap.size + 2, 0, none⟩ = some (.bool false) := d3.cell 0
    have k4 : W2.frozen? ⟨w.heap.size + 2, 0, none⟩ = false := d3.frozen 0
    have D2 := Lib.hid d2
    have D3 := Lib.hid d3
    clear d1 d2 d3 a1 a2 a3 q1
    gi_wp2_with fail
    have hK1 := (blk_keepsOthers (w.heap.size + 1) z4 D2.out).same D _ hK rfl
    have hK' := (KeepsOthers.setCell _ ⟨w.heap.size + 2, 0, none⟩ (.bool false)).same D _ hK1 rfl
    refine ⟨by simp, .inl ⟨_, _, rfl, run_takeDeferred hK', ?_⟩⟩
    exact ⟨_, results_cell2 rfl _ _ rfl rfl (run_loadVar_blk _ _ _ 30 30 _ _ 4 (blk_putObj ((D2.out.row_ _).far (by simp) _) hK' rfl) Try.underlying30 rfl (by kernel_rfl) (by decide)) (run_loadVar_one _ _ _ 4 4 _ _ _ (blk_putObj ((D3.out.farRow (by simp) _).set_ 0 (.bool false)) hK' rfl) Try.underlying4 rfl rfl), rfl, below_putObj ((Below.setRow hB (by omega) _).setCell (by simp; omega) _) (by omega) _⟩
theorem hFind {w : World} {q : Option Addr} (h : Hollow w q) (p : Int) : Calls Try.prog 11 #[.pointer q, .int .i64 p] w fun r w' => r = .returned (.tuple #[.agg z4, .bool false]) ∧ Below w.heap.size w w' := callsIn_wide.1 (hFind_in w q p h)
end Go.Proofs.Ytgmmnekepelomaa
