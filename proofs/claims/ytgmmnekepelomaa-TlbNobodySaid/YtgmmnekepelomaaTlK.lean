/- Tlb: the reference's DropAt and Fill. -/
import Derived.Test.YtgmmnekepelomaaTlJ
namespace Go.Proofs.Ytgmmnekepelomaa
open Go.RowKit
attribute [local go_sem ↓] ld30 st30 bs38
attribute [local go_sem] run_ld30 run_st30 tr_ones tr_size tr_take tr_extract tr_put tr_put' tr_len run_bs38

theorem own_cells {w : World} {base g n c : Nat} {xs : List Value} (h : w.ownsRow base 30 4 (.slice (some ⟨g, 0, none⟩) n c) n xs) : n ≤ c ∧ c ≤ maxLen ∧ ∀ j u, xs[j]? = some u → w.cell? ⟨g, j, none⟩ = some u := by
  rcases h.2 with ⟨e, _⟩ | ⟨g', c', cur, e, _, hg, hc, hcm, _, ht⟩
  · cases e
  · injection e with e1 _ e2
    injection e1 with e1
    injection e1 with e1
    subst e1 e2
    refine ⟨hc, hcm, fun j u hj => ?_⟩
    have hb : Blk w g 30 cur := hg
    rw [hb.cell]
    rw [← ht, List.getElem?_take] at hj
    split at hj
    · simpa using hj
    · cases hj
theorem flat_pre (l : List Tr) (i : Nat) {j : Nat} {u : Value} (h : (flat (l.take i))[j]? = some u) : (flat l)[j]? = some u := by
  have e : flat l = flat (l.take i) ++ flat (l.drop i) := by rw [← flat_append, List.take_append_drop]
  rw [e, List.getElem?_append_left (List.getElem?_eq_some_iff.1 h).1]
  exact h
theorem flat_post (l : List Tr) (i : Nat) (hi : i ≤ l.length) {j : Nat} {u : Value} (h : (flat (l.drop i))[j]? = some u) : (flat l)[i * 4 + j]? = some u := by
  have e : flat l = flat (l.take i) ++ flat (l.drop i) := by rw [← flat_append, List.take_append_drop]
  have hl : (flat (l.take i)).length = i * 4 := by rw [length_flat, List.length_take]; congr 1; omega
  rw [e, List.getElem?_append_right (by omega), hl, Nat.add_sub_cancel_left]
  exact h

theorem own_ge {w : World} {base : Nat} {e : TypeId} {size n : Nat} {v : Value} {xs : List Value} (h : w.ownsRow base e size v n xs) : ∀ k, v.ownBlock = some k → base ≤ k := by
  intro k hk
  rcases h.2 with ⟨rfl, _⟩ | ⟨g', c', cur', rfl, hge, _⟩
  · cases hk
  · have : g' = k := by simpa [Value.ownBlock] using hk
    omega
theorem eraseIdx_ok {s : Tl} (ok : s.ok) (i : Nat) : ({ s with l := s.l.eraseIdx i } : Tl).ok :=
  ⟨ok.s1, ok.s2, Nat.le_trans (List.length_eraseIdx_le _ _) ok.n, fun x hx => ok.m x (List.mem_of_mem_eraseIdx hx)⟩

theorem rDropAt_no (w : World) (b n c : Nat) (va : Option Addr) (y : Value) (i : Int) (h : Blk w b 40 #[y, .slice va n c]) (hi : i < 0 ∨ n ≤ i) : Calls Try.prog 24 #[.pointer (some ⟨b, 0, none⟩), .int .i64 i] w fun r w' => r = .returned (findV none) ∧ Below w.heap.size w w' := by
  have hput : putAt #[.int .i64 0, .int .i64 0, .int .i64 0, .bool false] 0 [.int .i64 0, .int .i64 0, .int .i64 0, .bool false] = #[.int .i64 0, .int .i64 0, .int .i64 0, .bool false] := rfl
  have hones : ones #[.int .i64 0, .int .i64 0, .int .i64 0, .bool false] = true := by simp [ones, Value.oneCell']
  have c0 : w.cell? ⟨b, 1, none⟩ = some (.slice va n c) := h.cell 1
  have hb := h.lt
  clear h
  by_cases h1 : i < 0
  · clear hi
    go_enter Try.func24, Try.ntmps24
    go_wp2
    refine bodyPost_ret (results_cellTmp rfl _ _ rfl (run_loadVar_blk _ _ _ 30 30 _ _ 4 (Blk.new _ _ _) Try.underlying30 rfl (by kernel_rfl) (by decide))) rfl ?_
    exact ⟨rfl, (Below.refl _ _).alloc (Nat.le_refl _) _⟩
  · have h2 : n ≤ i := by omega
    have h3 : decide (i < 0) = false := by simpa using h1
    clear hi h1
    go_enter Try.func24, Try.ntmps24
    go_wp2
    refine bodyPost_ret (results_cellTmp rfl _ _ rfl (run_loadVar_blk _ _ _ 30 30 _ _ 4 (Blk.new _ _ _) Try.underlying30 rfl (by kernel_rfl) (by decide))) rfl ?_
    exact ⟨rfl, (Below.refl _ _).alloc (Nat.le_refl _) _⟩

set_option maxRecDepth 100000 in
set_option maxHeartbeats 4000000 in
theorem rDropAt_yes (w : World) (base b i : Nat) (v : Value) (s : Tl) (h : RefAt w base b v s) (hbase : base ≤ w.heap.size) (hi : i < s.l.length) :
    Calls Try.prog 24 #[.pointer (some ⟨b, 0, none⟩), .int .i64 i] w fun r w' => r = .returned (findV (some s.l[i])) ∧ ∃ v', RefAt w' base b v' { s with l := s.l.eraseIdx i } ∧ Only (· = b) w w' := by
  obtain ⟨i0, hi0, hz0, hz1, hz2⟩ := info_parts info30
  have hb := h.hb.lt
  have h64 : s.l.length ≤ 64 := Nat.le_trans h.ok.n h.ok.s2
  obtain ⟨g, cap, cur, rfl, hg, hext, hfit, hcell, hbg⟩ := own_row h.hv hi
  obtain ⟨hcc, hcm, hcells⟩ := own_cells h.hv
  have c1 : w.cell? ⟨b, 1, none⟩ = some (.slice (some ⟨g, 0, none⟩) s.l.length cap) := h.hb.cell 1
  have f1 : w.frozen? ⟨b, 1, none⟩ = false := h.hb.frozen 1
  obtain ⟨x, hx⟩ : ∃ x, s.l[i] = x := ⟨_, rfl⟩
  rw [hx] at hext hcell ⊢
  have r1 := hg.rowOf
  have r2 := hg.plain
  have lg := hg.lt
  have d1 : decide (s.l.length ≤ i) = false := by simpa using hi
  have g0 : (0 : Int) ≤ (i : Int) := Int.natCast_nonneg _
  have g1 : (i : Int) < (s.l.length : Int) := by omega
  have g2 : (i : Int) ≤ (cap : Int) := by omega
  unfold maxLen at hcm
  have HH := Lib.hid h
  have HX := Lib.hid hx
  have HC := Lib.hid hcells
  have HG := Lib.hid hg
  clear h hx hcells hg hcell
  have hB0 : Below w.heap.size w ((w.alloc (.cells #[.int .i64 0, .int .i64 0, .int .i64 0, .bool false] 30)).alloc (.cells x.cells.toArray 30)) := ((Below.refl _ w).alloc (Nat.le_refl _) _).alloc (by simp) _
  have HB0 := Lib.hid hB0
  have HA4 := Lib.hid (((Blk.new' (w := w) 30 #[.int .i64 0, .int .i64 0, .int .i64 0, .bool false] rfl)).alloc (.cells x.cells.toArray 30))
  have HA6 := Lib.hid (show Blk ((w.alloc (.cells #[.int .i64 0, .int .i64 0, .int .i64 0, .bool false] 30)).alloc (.cells x.cells.toArray 30)) (w.heap.size + 1) 30 x.cells.toArray from Blk.new' _ _ (by simp))
  clear hB0
  have n0 : ¬ (w.heap.size = b) := by omega
  have n1 : ¬ (w.heap.size + 1 = b) := by omega
  have g3 : (i : Int) + 1 ≤ (s.l.length : Int) := by omega
  have g4 : (i : Int) + 1 ≤ (cap : Int) := by omega
  by_cases hcap : i + 1 = cap
  · have hcap' : ((i : Int) + 1 = (cap : Int)) := by omega
    obtain rfl : cap = i + 1 := hcap.symm
    clear hcap'
    go_enter Try.func24, Try.ntmps24
    go_wp2_with (first
      | (at_builtin; refine wpList_append_own _ rfl _ _ 38 rfl (w.heap.size + 2) 30 i0 _ 4 32 Try.underlying38 hi0 hz0 hz1 hz2 rfl (by decide) (.slice none 0 0) 0 [] rfl (World.ownsRow_nil _ _ _ _) ⟨g, 0, none⟩ i (i + 1) (flat (s.l.take i)) rfl (by rw [length_flat, List.length_take]; congr 1; omega) (fun j u hj => by rw [add_zero_off]; exact (HB0.out.cell (p := ⟨g, j, none⟩) lg).trans (HC.out j u (flat_pre s.l i hj))) (flat_ones _) (by simp only [maxLen]; omega) (by omega) (by simp) ?_; intro v1 w1 hown1 hgrow1 _; simp only [Nat.zero_add, List.nil_append] at hown1; have hB1 := (Below.refl (w.heap.size + 2) _).grown hgrow1 (by simp) (fun k h => by cases h); have hA1 := HB0.out.trans (hB1.mono (by omega)); have e1 := (hA1.cell (p := ⟨b, 1, none⟩) hb).trans c1; have e2 := (hA1.frozen (p := ⟨b, 1, none⟩) hb).trans f1)
      | (at_builtin; refine wpList_append_own _ rfl _ _ 38 rfl (w.heap.size + 2) 30 i0 _ 4 32 Try.underlying38 hi0 hz0 hz1 hz2 rfl (by decide) v1 i (flat (s.l.take i)) rfl hown1 ⟨g, 0, none⟩ 0 0 [] rfl rfl (fun j u hj => by cases hj) (fun u hu => by cases hu) (by simp only [maxLen]; omega) (by omega) (by have := hB1.size; simp at this; omega) ?_; intro v2 w2 hown2 hgrow2 _; simp only [Nat.add_zero, List.append_nil] at hown2; obtain ⟨a2, c2, rfl⟩ := own_form hown2; have hB2 := hB1.grown hgrow2 (by have := hB1.size; simpa using this) (own_ge hown1); have hA2 := HB0.out.trans (hB2.mono (by omega)); have e3 := (hA2.cell (p := ⟨b, 1, none⟩) hb).trans c1; have e4 := (hA2.frozen (p := ⟨b, 1, none⟩) hb).trans f1; have e5 : Blk w2 w.heap.size 30 #[.int .i64 0, .int .i64 0, .int .i64 0, .bool false] := (HA4.out).below hB2 (by omega); have e6 : Blk w2 (w.heap.size + 1) 30 x.cells.toArray := (HA6.out).below hB2 (by omega); have y1 := e5.rowOf; have y2 := e5.plain; have y3 := e6.rowOf; have y4 := e6.plain; have E5 := Lib.hid e5; clear e5 e6))
    have hO : Only (· = b) w ((w2.setCell ⟨b, 1, none⟩ (.slice a2 i c2)).setRow w.heap.size x.cells.toArray) := ((Only.of_below (S := (· = b)) hA2).setCell (p := ⟨b, 1, none⟩) (.inl rfl) _).setRow (.inr (Nat.le_refl _)) _
    refine bodyPost_ret (results_cellTmp rfl _ _ rfl (run_loadVar_blk _ _ _ 30 30 _ _ 4 ((E5.out.far (p := ⟨b, 1, none⟩) (by simp; omega) _).row_ _) Try.underlying30 rfl (by kernel_rfl) (Nat.le_refl 4))) rfl ?_
    refine ⟨rfl, ⟨.slice a2 i c2, eraseIdx_ok HH.out.ok i, ?_, ?_⟩, hO⟩
    · exact (((HH.out.hb.below hA2 hb).set_ 1 _).farRow (by omega) _)
    · have hl : (s.l.eraseIdx i).length = i := by rw [List.length_eraseIdx_of_lt hi]; omega
      have hf : flat (s.l.eraseIdx i) = flat (s.l.take i) := by rw [List.eraseIdx_eq_take_drop_succ, List.drop_of_length_le (by omega), List.append_nil]
      show World.ownsRow _ base 30 4 _ (s.l.eraseIdx i).length (flat (s.l.eraseIdx i))
      rw [hl, hf]
      refine own_only (S := fun k => k = b ∨ k = w.heap.size) (own_lo hown2 (by omega)) (((Only.refl _ w2).setCell (p := ⟨b, 1, none⟩) (.inl (.inl rfl)) _).setRow (.inl (.inr rfl)) _) (fun k hk e => ?_)
      have := own_ge hown2 k hk
      omega
  · have hcap' : ¬ ((i : Int) + 1 = (cap : Int)) := by omega
    go_enter Try.func24, Try.ntmps24
    go_wp2_with (first
      | (at_builtin; refine wpList_append_own _ rfl _ _ 38 rfl (w.heap.size + 2) 30 i0 _ 4 32 Try.underlying38 hi0 hz0 hz1 hz2 rfl (by decide) (.slice none 0 0) 0 [] rfl (World.ownsRow_nil _ _ _ _) ⟨g, 0, none⟩ i cap (flat (s.l.take i)) rfl (by rw [length_flat, List.length_take]; congr 1; omega) (fun j u hj => by rw [add_zero_off]; exact (HB0.out.cell (p := ⟨g, j, none⟩) lg).trans (HC.out j u (flat_pre s.l i hj))) (flat_ones _) (by simp only [maxLen]; omega) (by omega) (by simp) ?_; intro v1 w1 hown1 hgrow1 _; simp only [Nat.zero_add, List.nil_append] at hown1; have hB1 := (Below.refl (w.heap.size + 2) _).grown hgrow1 (by simp) (fun k h => by cases h); have hA1 := HB0.out.trans (hB1.mono (by omega)); have e1 := (hA1.cell (p := ⟨b, 1, none⟩) hb).trans c1; have e2 := (hA1.frozen (p := ⟨b, 1, none⟩) hb).trans f1)
      | (at_builtin; refine wpList_append_own _ rfl _ _ 38 rfl (w.heap.size + 2) 30 i0 _ 4 32 Try.underlying38 hi0 hz0 hz1 hz2 rfl (by decide) v1 i (flat (s.l.take i)) rfl hown1 ⟨g, (i + 1) * 4, none⟩ (s.l.length - (i + 1)) (cap - (i + 1)) (flat (s.l.drop (i + 1))) rfl (by rw [length_flat, List.length_drop]) (fun j u hj => by rw [add_off]; exact (hA1.cell (p := ⟨g, (i + 1) * 4 + j, none⟩) lg).trans (HC.out _ u (flat_post s.l (i + 1) (by omega) hj))) (flat_ones _) (by simp only [maxLen]; omega) (by omega) (by have := hB1.size; simp at this; omega) ?_; intro v2 w2 hown2 hgrow2 _; obtain ⟨a2, c2, rfl⟩ := own_form hown2; have hB2 := hB1.grown hgrow2 (by have := hB1.size; simpa using this) (own_ge hown1); have hA2 := HB0.out.trans (hB2.mono (by omega)); have e3 := (hA2.cell (p := ⟨b, 1, none⟩) hb).trans c1; have e4 := (hA2.frozen (p := ⟨b, 1, none⟩) hb).trans f1; have e5 : Blk w2 w.heap.size 30 #[.int .i64 0, .int .i64 0, .int .i64 0, .bool false] := (HA4.out).below hB2 (by omega); have e6 : Blk w2 (w.heap.size + 1) 30 x.cells.toArray := (HA6.out).below hB2 (by omega); have y1 := e5.rowOf; have y2 := e5.plain; have y3 := e6.rowOf; have y4 := e6.plain; have E5 := Lib.hid e5; clear e5 e6))
    have hO : Only (· = b) w ((w2.setCell ⟨b, 1, none⟩ (.slice a2 (i + (s.l.length - (i + 1))) c2)).setRow w.heap.size x.cells.toArray) := ((Only.of_below (S := (· = b)) hA2).setCell (p := ⟨b, 1, none⟩) (.inl rfl) _).setRow (.inr (Nat.le_refl _)) _
    refine bodyPost_ret (results_cellTmp rfl _ _ rfl (run_loadVar_blk _ _ _ 30 30 _ _ 4 ((E5.out.far (p := ⟨b, 1, none⟩) (by simp; omega) _).row_ _) Try.underlying30 rfl (by kernel_rfl) (Nat.le_refl 4))) rfl ?_
    refine ⟨rfl, ⟨.slice a2 (i + (s.l.length - (i + 1))) c2, eraseIdx_ok HH.out.ok i, ?_, ?_⟩, hO⟩
    · exact (((HH.out.hb.below hA2 hb).set_ 1 _).farRow (by omega) _)
    · have hl : (s.l.eraseIdx i).length = i + (s.l.length - (i + 1)) := by rw [List.length_eraseIdx_of_lt hi]; omega
      have hf : flat (s.l.eraseIdx i) = flat (s.l.take i) ++ flat (s.l.drop (i + 1)) := by rw [← flat_append, ← List.eraseIdx_eq_take_drop_succ]
      show World.ownsRow _ base 30 4 _ (s.l.eraseIdx i).length (flat (s.l.eraseIdx i))
      rw [hl, hf]
      refine own_only (S := fun k => k = b ∨ k = w.heap.size) (own_lo hown2 (by omega)) (((Only.refl _ w2).setCell (p := ⟨b, 1, none⟩) (.inl (.inl rfl)) _).setRow (.inl (.inr rfl)) _) (fun k hk e => ?_)
      have := own_ge hown2 k hk
      omega
end Go.Proofs.Ytgmmnekepelomaa
