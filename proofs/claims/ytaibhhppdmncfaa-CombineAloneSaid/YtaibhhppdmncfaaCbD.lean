/- Combine: Next, New. -/
import Derived.Test.YtaibhhppdmncfaaCbC
import Derived.Deep.RegionHeld3
namespace Go.Proofs.Ytaibhhppdmncfaa
open Go.RowKit Go.Maps

theorem ld49 (v : Value) : Instr.loadAt 49 v = ldAgg 49 v := rfl
theorem st49 (v x : Value) : Instr.storeAt 49 v x = stAgg 49 v x := rfl
theorem run_ld49 (w : World) (g off : Nat) (hp : plainRow w g = true) (hfit : off + 12 ≤ (rowOf w g).size) :
    (ldAgg 49 (.pointer (some ⟨g, off, none⟩))).run Try.prog w = .ok (.agg ((rowOf w g).extract off (off + 12))) w :=
  run_loadAt_row w g off 12 49 _ Try.underlying49 rfl (by kernel_rfl) hp hfit
theorem run_st49 (w : World) (g off : Nat) (vs : Array Value) (hp : plainRow w g = true) (hs : vs.size = 12) (h1 : ones vs = true) (hfit : off + 12 ≤ (rowOf w g).size) :
    (stAgg 49 (.pointer (some ⟨g, off, none⟩)) (.agg vs)).run Try.prog w = .ok () (w.setRow g (putAt (rowOf w g) off vs.toList)) :=
  run_storeAt_row w g off 12 49 vs (by kernel_rfl) hp hs h1 hfit
theorem sl_ones (x : Sl) : ones x.cells.toArray = true := by simp [ones, Sl.cells, Value.oneCell']
theorem sl_size (x : Sl) : x.cells.toArray.size = 12 := rfl
theorem sl_take (x : Sl) : List.take 12 x.cells = x.cells := rfl
theorem sl_extract (x : Sl) : x.cells.toArray.extract 0 12 = x.cells.toArray := rfl
theorem sl_put (x : Sl) (a b c d e f g h i j k l : Value) : putAt #[a, b, c, d, e, f, g, h, i, j, k, l] 0 x.cells = x.cells.toArray := rfl
theorem sl_put' (x y : Sl) : putAt y.cells.toArray 0 x.cells = x.cells.toArray := rfl
@[go_sem] theorem setRow_drew_out (w : World) (g : Nat) (c : Array Value) : w.drew.setRow g c = (w.setRow g c).drew := rfl
@[go_sem] theorem setRow_drewN_out (w : World) (n g : Nat) (c : Array Value) : (w.drewN n).setRow g c = (w.setRow g c).drewN n := rfl
@[go_sem] theorem rowOf_alloc_eq (w : World) (g : Nat) (c : Array Value) (t : TypeId) (fz : Nat × Nat) (h : g = w.heap.size) : rowOf (w.alloc (.cells c t fz)) g = c := by subst h; exact rowOf_alloc_new w c t fz
@[go_sem] theorem plainRow_alloc_eq (w : World) (g : Nat) (c : Array Value) (t : TypeId) (h : g = w.heap.size) : plainRow (w.alloc (.cells c t)) g = true := by subst h; exact plainRow_alloc_new w c t
@[go_sem] theorem setRow_alloc_eq (w : World) (g : Nat) (c c' : Array Value) (t : TypeId) (fz : Nat × Nat) (h : g = w.heap.size) : (w.alloc (.cells c t fz)).setRow g c' = w.alloc (.cells c' t fz) := by subst h; exact setRow_alloc_new w c c' t fz

def entV (x : Cl) (i : Nat) : Value := .agg (x.cells ++ [Value.int .i64 (i : Int)]).toArray
def zentV : Value := entV default 0
def nextV (s : Cb) : Value :=
  match s.batch with
  | i :: _ => .tuple #[entV ((slotAt s.l i).getD default).x i, .bool true]
  | [] => .tuple #[zentV, .bool false]
/-- Nine cells of nought. -/
def z9 : Array Value := #[.int .i64 0, .int .i64 0, .int .i64 0, .int .i64 0, .int .i64 0, .int .i64 0, .int .i64 0, .int .i64 0, .int .i64 0]

theorem next_no (w : World) (p : Option Addr) (h : Calls Try.prog 23 #[.pointer p] (w.alloc (.cells z9 37)) fun r w' => r = .returned (.bool false) ∧ w.alloc (.cells z9 37) = w') : Calls Try.prog 9 #[.pointer p] w fun r w' => r = .returned (.tuple #[zentV, .bool false]) ∧ Below w.heap.size w w' := by
  unfold z9 at h
  have H := Lib.hid h; clear h
  go_enter Try.func9, Try.ntmps9
  go_wp2_with (go_at_call 23; refine (H.out).mono ?_; rintro r w' ⟨rfl, rfl⟩)
  refine bodyPost_ret (results_cellTmp rfl _ _ rfl (run_loadVar_blk _ _ _ 37 37 z9 _ 9 (Blk.new _ _ _) Try.underlying37 rfl (by kernel_rfl) (by simp [z9]))) rfl ?_
  exact ⟨rfl, (Below.refl _ _).alloc (Nat.le_refl _) _⟩
theorem next_nil (w : World) : Calls Try.prog 9 #[.pointer none] w fun r w' => r = .returned (.tuple #[zentV, .bool false]) ∧ Below w.heap.size w w' := next_no w none (is_nil _)
set_option maxHeartbeats 1000000 in
theorem next_at (w : World) (b m : Nat) (s : Cb) (h : CbAt w b m s) : Calls Try.prog 9 #[.pointer (some ⟨b, 0, none⟩)] w fun r w' => r = .returned (nextV s) ∧ Below w.heap.size w w' := by
  have B1 : Below w.heap.size w (w.alloc (.cells z9 37)) := (Below.refl _ _).alloc (Nat.le_refl _) _
  have h1 := h.below B1
  have HB := Lib.hid B1
  have H := Lib.hid (is_at _ b m s h1)
  unfold z9 at H
  obtain ⟨ok, ⟨q, hb, hq⟩, hm⟩ := h
  have hlt := hb.lt
  have c3 : w.cell? ⟨b, 3, none⟩ = some (.map (some m)) := hb.cell 3
  have c4 : w.cell? ⟨b, 4, none⟩ = some q := hb.cell 4
  unfold nextV
  cases hbt : s.batch with
  | nil =>
    rw [hbt] at hq
    obtain ⟨a, c, rfl, _⟩ := hq
    clear ok hb hm h1 hbt
    go_enter Try.func9, Try.ntmps9
    go_wp2_with (go_at_call 23; refine (H.out).mono ?_; rintro r w' ⟨rfl, rfl⟩)
    refine bodyPost_ret (results_cellTmp rfl _ _ rfl (run_loadVar_blk _ _ _ 37 37 z9 _ 9 (Blk.new _ _ _) Try.underlying37 rfl (by kernel_rfl) (by simp [z9]))) rfl ?_
    exact ⟨rfl, HB.out⟩
  | cons i t =>
    rw [hbt] at hq
    obtain ⟨g, off, c, rfl, hc, c0, ⟨cur, hg⟩, _, _⟩ := hq.head
    have hlg := hg.lt
    obtain ⟨x, hx, hxi, _⟩ := ok.bat i (by rw [hbt]; exact List.mem_cons_self)
    have hs : slotAt s.l i = some x := by rw [← hxi]; exact slotAt_mem ok.srt hx
    have hi : (i : Int) ≤ 9223372036854775807 := by
      have h2 := ok.mine x hx
      have h3 := ok.c2
      unfold Cb.own at h2
      simp at h2
      omega
    have hl := (map_look h1.hm (i : Int) (by omega) hi).1
    rw [find_slot, hs] at hl
    simp only [hs, Option.getD_some] at hl ⊢
    have hxc := slotAt_core hs
    obtain ⟨co, ⟨k1, k2, k3, k4, k5, k6, k7, k8⟩, tk, td, ix⟩ := x
    obtain rfl : co = i := hxi
    have hl' : (Instr.lookup 59 (.map (some m)) (.int .i64 (co : Int)) false).run Try.prog (w.alloc (.cells #[.int .i64 0, .int .i64 0, .int .i64 0, .int .i64 0, .int .i64 0, .int .i64 0, .int .i64 0, .int .i64 0, .int .i64 0] 37)).drew = .ok (.agg #[.int .i64 (co : Int), .int .i64 k1, .int .i64 k2, .int .i64 k3, .int .i64 k4, .int .i64 k5, .int .i64 k6, .int .i64 k7, .int .i64 k8, .bool tk, .bool td, .int .i64 ix]) (w.alloc (.cells #[.int .i64 0, .int .i64 0, .int .i64 0, .int .i64 0, .int .i64 0, .int .i64 0, .int .i64 0, .int .i64 0, .int .i64 0] 37)).drew :=
      (map_look (h1.hm.drew) (co : Int) (by omega) hi).1.trans (by rw [find_slot, hs]; rfl)
    clear ok hb hm h1 hbt hl hs hxc hx hq hg
    simp only [entV, Cl.cells, List.cons_append, List.nil_append]
    go_enter Try.func9, Try.ntmps9
    go_wp2_with (first | (go_at_call 23; refine (H.out).mono ?_; rintro r w' ⟨rfl, rfl⟩) | (refine wp_region_stG 19 (by kernel_rfl) (by kernel_rfl) ?_; simp only [List.take_succ_cons, List.take_zero, List.drop_succ_cons, List.drop_zero]; (repeat (first | (refine StG.skip rfl rfl ?_) | (refine StG.skipU rfl (by simp only [Act.put, List.setIfInBounds_toArray, List.set_cons_zero, List.set_cons_succ]; rfl) ?_) | (refine StG.want rfl (fun K hK => ?_); go_simp; (try go_bits); refine hK _ ?_; clear hK K))); refine StG.nil ?_))
    refine bodyPost_ret (results_cellTmp rfl _ _ rfl (run_loadVar_blk _ _ _ 37 37 _ _ 9 ((Blk.new _ _ _).drew) Try.underlying37 rfl (by kernel_rfl) (by simp))) rfl ?_
    exact ⟨rfl, ((Below.refl _ _).alloc (Nat.le_refl _) _).drew⟩

attribute [local go_sem ↓] ld49 st49
attribute [local go_sem] run_ld49 run_st49 sl_ones sl_size sl_take sl_extract sl_put sl_put' sl_len
theorem sl_core (x : Sl) : x.cells.toArray[0]? = some (.int .i64 (x.core : Int)) := rfl
set_option maxRecDepth 100000 in
set_option maxHeartbeats 2000000 in
theorem rNext_at (w : World) (base b : Nat) (v : Value) (s : Cb) (ok : s.ok) (h : RefAt w base b v s) (hn : s.l.length ≤ 64) : Calls Try.prog 30 #[.pointer (some ⟨b, 0, none⟩)] w fun r w' => r = .returned (nextV s) ∧ Below w.heap.size w w' := by
  have B1 : Below w.heap.size w (w.alloc (.cells z9 37)) := (Below.refl _ _).alloc (Nat.le_refl _) _
  have HB := Lib.hid B1
  have HH := Lib.hid h
  obtain ⟨⟨q, hb, hq⟩, hv⟩ := h
  have hlt := hb.lt
  have c4 : w.cell? ⟨b, 4, none⟩ = some (whoV s.who) := hb.cell 4
  have c5 : w.cell? ⟨b, 5, none⟩ = some q := hb.cell 5
  unfold nextV
  cases hbt : s.batch with
  | nil =>
    rw [hbt] at hq
    obtain ⟨a, c, rfl, _⟩ := hq
    obtain ⟨x, hx⟩ : ∃ x, s.who = x := ⟨_, rfl⟩
    rw [hx] at c4
    clear hb hv B1 hbt hx
    cases x with
    | none =>
      unfold whoV at c4
      go_enter Try.func30, Try.ntmps30
      go_wp2
      refine bodyPost_ret (results_cellTmp rfl _ _ rfl (run_loadVar_blk _ _ _ 37 37 z9 _ 9 (Blk.new _ _ _) Try.underlying37 rfl (by kernel_rfl) (by simp [z9]))) rfl ?_
      exact ⟨rfl, HB.out⟩
    | some i =>
      unfold whoV at c4
      have h1 : decide ((i : Int) < 0) = false := by simp
      go_enter Try.func30, Try.ntmps30
      go_wp2
      refine bodyPost_ret (results_cellTmp rfl _ _ rfl (run_loadVar_blk _ _ _ 37 37 z9 _ 9 (Blk.new _ _ _) Try.underlying37 rfl (by kernel_rfl) (by simp [z9]))) rfl ?_
      exact ⟨rfl, HB.out⟩
  | cons i t =>
    rw [hbt] at hq
    obtain ⟨g0, off, c, rfl, hc, c0, ⟨cur0, hg0⟩, _, _⟩ := hq.head
    have hlg0 := hg0.lt
    obtain ⟨x, hx, hxi, _⟩ := ok.bat i (by rw [hbt]; exact List.mem_cons_self)
    have hs : slotAt s.l i = some x := by rw [← hxi]; exact slotAt_mem ok.srt hx
    cases hw : s.who with
    | none => have := ok.free hw; rw [hbt] at this; cases this
    | some i0 =>
      rw [hw] at c4
      unfold whoV at c4
      have h1 : decide ((i0 : Int) < 0) = false := by simp
      rcases place_cases s.l (i : Int) with ⟨_, h3⟩ | ⟨k, hk, h2, _, h3⟩
      · rw [find_slot, hs] at h3; cases h3
      · rw [find_slot, hs] at h3
        obtain rfl : x = s.l[k] := by injection h3
        obtain ⟨g, cap, cur, rfl, hg, hcur, hfit⟩ := own_sl hv hk
        have c3 : w.cell? ⟨b, 3, none⟩ = some (.slice (some ⟨g, 0, none⟩) s.l.length cap) := hb.cell 3
        have hlg := hg.lt
        have r1 := hg.rowOf
        have r2 := hg.plain
        have hp0 : (∀ W, Below w.heap.size w W → Calls Try.prog 35 #[.pointer (some ⟨b, 0, none⟩), .int .i64 (i : Int)] W fun r w' => r = .returned (.int .i64 (k : Int)) ∧ W = w') := fun W hW => by
          have := place_at W base b _ s (i : Int) (HH.out.below hW) hn
          rw [h2] at this
          exact this
        have HP := Lib.hid hp0
        simp only [hs, Option.getD_some]
        obtain ⟨x, hx0⟩ : ∃ x, x = s.l[k] := ⟨_, rfl⟩
        rw [← hx0] at hcur hxi ⊢
        obtain ⟨N, hN⟩ : ∃ N, N = s.l.length := ⟨_, rfl⟩
        rw [← hN] at c3 hk hn
        have hkN : decide (N ≤ k) = false := by simpa using hk
        obtain rfl := hxi
        clear hb hv B1 hbt hq hg hg0 hs h2 h3 hx hx0 hw HH hN hp0
        go_enter Try.func30, Try.ntmps30
        go_wp2_with fail
        go_region_held3 (fun w' => w'.cell? ⟨b, 3, none⟩ = some (.slice (some ⟨g, 0, none⟩) N cap) ∧ w'.cell? ⟨b, 5, none⟩ = some (.slice (some ⟨g0, off, none⟩) (t.length + 1) c) ∧
            w'.cell? ⟨g0, off, none⟩ = some (.int .i64 (x.core : Int)) ∧ rowOf w' g = cur ∧ plainRow w' g = true ∧ g < w'.heap.size) (first
            | ((try dsimp only); refine ⟨?_, ?_, ?_, ?_, ?_, ?_⟩ <;> (first
                | (go_keep; done)
                | ((repeat (first | rw [rowOf_drew] | rw [rowOf_alloc_past _ _ _ (by first | omega | (simp; omega))])); assumption)
                | ((repeat (first | rw [plainRow_drew] | rw [plainRow_alloc_past _ _ _ (by first | omega | (simp; omega))])); assumption)
                | (simp; omega)))) ((first | (go_at_call 35; refine (HP.out _ (by first | exact HB.out.drew | exact (HB.out.drew.alloc (by simp) _))).mono ?_; rintro r w' ⟨rfl, rfl⟩)))
        all_goals
          clear HP c0 c3 c4 c5 r1 r2 hcur ok
          obtain ⟨co, ⟨k1, k2, k3, k4, k5, k6, k7, k8⟩, tk, td, ix⟩ := x
          unfold Sl.cells
          try dsimp only
          go_wp2_with fail
          refine bodyPost_ret (results_cellTmp rfl _ _ rfl (run_loadVar_blk _ _ _ 37 37 _ _ 9 (((Blk.new w 37 _).alloc _).drew) Try.underlying37 rfl (by kernel_rfl) (by simp))) rfl ?_
          exact ⟨rfl, (((Below.refl _ w).alloc (Nat.le_refl _) _).alloc (by simp) _).drew⟩

/-! ### New -/
structure Cb.can (node nodes cores : Int) : Prop where
  a : 1 ≤ nodes
  b : nodes ≤ 8
  c : 1 ≤ cores
  d : cores ≤ 64
  e : 0 ≤ node
  f : node < nodes
theorem Cb.can_no {node nodes cores : Int} (h : ¬ Cb.can node nodes cores) : nodes < 1 ∨ (1 ≤ nodes ∧ 8 < nodes) ∨ (1 ≤ nodes ∧ nodes ≤ 8 ∧ cores < 1) ∨ (1 ≤ nodes ∧ nodes ≤ 8 ∧ 1 ≤ cores ∧ 64 < cores) ∨ (1 ≤ nodes ∧ nodes ≤ 8 ∧ 1 ≤ cores ∧ cores ≤ 64 ∧ node < 0) ∨ (1 ≤ nodes ∧ nodes ≤ 8 ∧ 1 ≤ cores ∧ cores ≤ 64 ∧ 0 ≤ node ∧ nodes ≤ node) := by
  by_cases h1 : 1 ≤ nodes
  · by_cases h2 : nodes ≤ 8
    · by_cases h3 : 1 ≤ cores
      · by_cases h4 : cores ≤ 64
        · by_cases h5 : 0 ≤ node
          · by_cases h6 : node < nodes
            · exact absurd ⟨h1, h2, h3, h4, h5, h6⟩ h
            · omega
          · omega
        · omega
      · omega
    · omega
  · omega
theorem new_no (w : World) (a b c : Int) (h : ¬ Cb.can a b c) : Calls Try.prog 21 #[.int .i64 a, .int .i64 b, .int .i64 c] w fun r w' => r = .returned (.tuple #[.pointer none, .int .i64 1]) ∧ w = w' := by
  rcases Cb.can_no h with h1 | ⟨h1, h2⟩ | ⟨h1, h2, h3⟩ | ⟨h1, h2, h3, h4⟩ | ⟨h1, h2, h3, h4, h5⟩ | ⟨h1, h2, h3, h4, h5, h6⟩
  all_goals
    clear h
    go_enter Try.func21, Try.ntmps21
    go_wp2
    go_ret2
    exact ⟨rfl, rfl⟩
theorem rNew_no (w : World) (a b c : Int) (h : ¬ Cb.can a b c) : Calls Try.prog 22 #[.int .i64 a, .int .i64 b, .int .i64 c] w fun r w' => r = .returned (.tuple #[.pointer none, .int .i64 1]) ∧ w = w' := by
  rcases Cb.can_no h with h1 | ⟨h1, h2⟩ | ⟨h1, h2, h3⟩ | ⟨h1, h2, h3, h4⟩ | ⟨h1, h2, h3, h4, h5⟩ | ⟨h1, h2, h3, h4, h5, h6⟩
  all_goals
    clear h
    go_enter Try.func22, Try.ntmps22
    go_wp2
    go_ret2
    exact ⟨rfl, rfl⟩
theorem rNew_yes (w : World) (a b c : Int) (h : Cb.can a b c) : Calls Try.prog 22 #[.int .i64 a, .int .i64 b, .int .i64 c] w fun r w' => r = .returned (.tuple #[.pointer (some ⟨w.heap.size, 0, none⟩), .int .i64 0]) ∧
    w.alloc (.cells #[.int .i64 a, .int .i64 b, .int .i64 c, .slice none 0 0, .int .i64 (-1), .slice none 0 0] 43) = w' := by
  obtain ⟨h1, h2, h3, h4, h5, h6⟩ := h
  go_enter Try.func22, Try.ntmps22
  go_wp2
  go_ret2
  exact ⟨rfl, rfl⟩
theorem new_yes (w : World) (a b c : Int) (h : Cb.can a b c) : Calls Try.prog 21 #[.int .i64 a, .int .i64 b, .int .i64 c] w fun r w' => r = .returned (.tuple #[.pointer (some ⟨w.heap.size + 1, 0, none⟩), .int .i64 0]) ∧
    (w.alloc (.map #[] 0)).alloc (.cells #[.int .i64 a, .int .i64 b, .int .i64 c, .map (some w.heap.size), .slice none 0 0, .bool false, .int .i64 0] 61) = w' := by
  obtain ⟨h1, h2, h3, h4, h5, h6⟩ := h
  have hmk : ∀ w, (Instr.makeMap 59 none).run Try.prog w = .ok (.map (some w.heap.size)) (w.alloc (.map #[] 0)) := fun _ => rfl
  go_enter Try.func21, Try.ntmps21
  go_wp2
  go_ret2
  exact ⟨rfl, rfl⟩
end Go.Proofs.Ytaibhhppdmncfaa
