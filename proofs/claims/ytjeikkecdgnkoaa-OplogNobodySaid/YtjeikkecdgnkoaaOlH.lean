/- Oplog: the reference's At; awake. -/
import Derived.Test.YtjeikkecdgnkoaaOlG
namespace Go.Proofs.Ytjeikkecdgnkoaa
open Go.RowKit Go.Shelf
attribute [local go_sem ↓] ld35 st35 ld42
attribute [local go_sem] run_ld35 run_st35
attribute [local go_sem] cells_take cells_ones cells_size cells_extract putAt9

theorem flat_at : ∀ (l : List Ent) (i : Nat) (h : i < l.length), ((flat l).drop (i * 9)).take 9 = l[i].cells
  | x :: l, 0, _ => by
    show (x.cells ++ flat l).take 9 = x.cells
    exact List.take_left' rfl
  | x :: l, i + 1, h => by
    have ih := flat_at l i (by simpa using h)
    rw [List.getElem_cons_succ, ← ih]
    show ((x.cells ++ flat l).drop ((i + 1) * 9)).take 9 = _
    rw [List.drop_append, List.drop_of_length_le (by simp; omega), List.nil_append]
    congr 2
    simp; omega
theorem own_entry {w : World} {base : Nat} {v : Value} {l : List Ent} (h : w.ownsRow base 35 9 v l.length (flat l)) {i : Nat} (hi : i < l.length) :
    ∃ g cap cur, v = .slice (some ⟨g, 0, none⟩) l.length cap ∧ Blk w g 35 cur ∧ cur.extract (i * 9) (i * 9 + 9) = l[i].cells.toArray ∧ i * 9 + 9 ≤ cur.size := by
  rcases h.2 with ⟨_, h0⟩ | ⟨g, cap, cur, rfl, _, hg, hc, _, hs, ht⟩
  · omega
  · have hfit : i * 9 + 9 ≤ cur.size := by rw [hs]; omega
    refine ⟨g, cap, cur, rfl, hg, ?_, hfit⟩
    apply Array.ext'
    have e := flat_at l i hi
    rw [← ht] at e
    simp only [Array.toList_extract, List.extract_eq_take_drop]
    rw [show i * 9 + 9 - i * 9 = 9 by omega]
    rw [← e, List.drop_take, List.take_take, show min 9 (l.length * 9 - i * 9) = 9 by omega]

set_option maxHeartbeats 400000 in
theorem rAt_no (w : World) (b k : Nat) (n c hd : Nat) (a : Option Addr) (i : Int) (h : Blk w b 46 #[.int .i64 k, .int .i64 hd, .slice a n c]) (hi : i < hd ∨ (n : Int) ≤ i) :
    Calls Try.prog 11 #[.pointer (some ⟨b, 0, none⟩), .int .i64 i] w fun r w' => r = .returned (atV none) ∧ Below w.heap.size w w' := by
  have hlt := h.lt
  have c1 : w.cell? ⟨b, 1, none⟩ = some (.int .i64 hd) := h.cell 1
  have c2 : w.cell? ⟨b, 2, none⟩ = some (.slice a n c) := h.cell 2
  have hz9 : ones #[Value.int .i64 0, .int .i64 0, .int .i64 0, .int .i64 0, .int .i64 0, .int .i64 0, .int .i64 0, .int .i64 0, .int .i64 0] = true := cells_ones Ent.zero
  clear h
  by_cases h1 : i < hd
  · clear hi
    go_enter Try.func11, Try.ntmps11
    go_wp2
    refine bodyPost_ret (results_cellTmp rfl _ _ rfl (run_loadVar_blk _ _ _ 35 35 Ent.zero.cells.toArray _ 9 (Blk.new _ _ _) Try.underlying35 rfl (by kernel_rfl) (by simp))) rfl ?_
    exact ⟨rfl, (Below.refl _ _).alloc (Nat.le_refl _) _⟩
  · have h2 : (n : Int) ≤ i := by omega
    clear hi
    go_enter Try.func11, Try.ntmps11
    go_wp2
    refine bodyPost_ret (results_cellTmp rfl _ _ rfl (run_loadVar_blk _ _ _ 35 35 Ent.zero.cells.toArray _ 9 (Blk.new _ _ _) Try.underlying35 rfl (by kernel_rfl) (by simp))) rfl ?_
    exact ⟨rfl, (Below.refl _ _).alloc (Nat.le_refl _) _⟩
set_option maxHeartbeats 400000 in
theorem rAt_yes (w : World) (b k g : Nat) (n c hd i : Nat) (cur : Array Value) (x : Ent) (h : Blk w b 46 #[.int .i64 k, .int .i64 hd, .slice (some ⟨g, 0, none⟩) n c]) (hg : Blk w g 35 cur) (hx : cur.extract (i * 9) (i * 9 + 9) = x.cells.toArray) (hfit : i * 9 + 9 ≤ cur.size) (h1 : hd ≤ i) (h2 : i < n) :
    Calls Try.prog 11 #[.pointer (some ⟨b, 0, none⟩), .int .i64 i] w fun r w' => r = .returned (atV (some x)) ∧ Below w.heap.size w w' := by
  have hlt := h.lt
  have hlt2 := hg.lt
  have c1 : w.cell? ⟨b, 1, none⟩ = some (.int .i64 hd) := h.cell 1
  have c2 : w.cell? ⟨b, 2, none⟩ = some (.slice (some ⟨g, 0, none⟩) n c) := h.cell 2
  have r1 := hg.rowOf
  have r2 := hg.plain
  clear h hg
  go_enter Try.func11, Try.ntmps11
  go_wp2
  refine bodyPost_ret (results_cellTmp rfl _ _ rfl (run_loadVar_blk _ _ _ 35 35 x.cells.toArray _ 9 (Blk.new _ _ _) Try.underlying35 rfl (by kernel_rfl) (by simp))) rfl ?_
  exact ⟨rfl, (Below.refl _ _).alloc (Nat.le_refl _) _⟩
theorem rAt_log (w : World) (base b : Nat) (v : Value) (s : Ol) (i : Int) (h : RefAt w base b v s) :
    Calls Try.prog 11 #[.pointer (some ⟨b, 0, none⟩), .int .i64 i] w fun r w' => r = .returned (atV (s.get i)) ∧ Below w.heap.size w w' := by
  by_cases hh : (s.first : Int) ≤ i ∧ i < s.l.length
  · obtain ⟨g, cap, cur, hv, hg, hx, hfit⟩ := own_entry h.hv (i := i.toNat) (by omega)
    have hb := h.hb
    rw [hv] at hb
    have e1 : s.get i = some s.l[i.toNat] := by unfold Ol.get; rw [if_pos hh, List.getElem?_eq_getElem (by omega)]
    obtain ⟨j, rfl⟩ := Int.eq_ofNat_of_zero_le (show 0 ≤ i by omega)
    rw [e1]
    exact rAt_yes w b _ g _ _ _ j cur _ hb hg hx hfit (by omega) (by omega)
  · obtain ⟨a, c, rfl⟩ := own_form h.hv
    have e1 : s.get i = none := by unfold Ol.get; rw [if_neg hh]
    rw [e1]
    exact rAt_no w b _ _ _ _ _ i h.hb (by omega)
end Go.Proofs.Ytjeikkecdgnkoaa
