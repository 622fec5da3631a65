/- Shoot: the law Nobody, walked. -/
import Derived.Test.YtfekllnalacggaaShM
namespace Go.Proofs.Ytfekllnalacggaa
open Go.RowKit Go.Shelf
attribute [local go_sem] Oper.semAt_some
attribute [local go_sem ↓] ld35 st35 ld41 ld61 st61
attribute [local go_sem] run_ld35 run_st35 run_ld61 run_st61

/-- No shoot, or one that New did not make. -/
def Hollow (w : World) (p : Option Addr) : Prop := p = none ∨ ∃ b, p = some ⟨b, 0, none⟩ ∧ Blk w b 46 #[.slice none 0 0, .int .i64 0]
theorem Hollow.below {w w' : World} {p : Option Addr} (h : Hollow w p) (hb : Below w.heap.size w w') : Hollow w' p := by
  rcases h with rfl | ⟨b, rfl, h⟩
  · exact .inl rfl
  · exact .inr ⟨b, rfl, h.below hb h.lt⟩
theorem hCore {w : World} {p : Option Addr} (h : Hollow w p) (i : Int) : Calls Try.prog 19 #[.pointer p, .int .i64 i] w fun r w' => r = .returned (.slice none 0 0) ∧ w = w' := by
  rcases h with rfl | ⟨b, rfl, h⟩
  · exact core_nil w i
  · exact core_out w b _ _ _ _ i h (by omega)
theorem hPost {w : World} {p : Option Addr} (h : Hollow w p) (f t : Int) : Calls Try.prog 15 #[.pointer p, .int .i64 f, .int .i64 t] w fun r w' => r = .returned (.tuple #[.int .i64 0, .int .i64 1]) ∧ w = w' := by
  rcases h with rfl | ⟨b, rfl, h⟩
  · exact post_nil w f t
  · exact post_none w b _ _ _ f t h
theorem hLast {w : World} {p : Option Addr} (h : Hollow w p) : Calls Try.prog 13 #[.pointer p] w fun r w' => r = .returned (.int .i64 0) ∧ w = w' := by
  rcases h with rfl | ⟨b, rfl, h⟩
  · exact last_nil w
  · exact last_blk w b _ _ h
theorem hWait {w : World} {p : Option Addr} (h : Hollow w p) (i : Int) : Calls Try.prog 10 #[.pointer p, .int .i64 i] w fun r w' => r = .returned (.bool false) ∧ w = w' := by
  have H := Lib.hid h; clear h
  go_enter Try.func10, Try.ntmps10
  go_wp2_with (go_at_call 19; refine (hCore H.out _).mono ?_; rintro r w' ⟨rfl, rfl⟩)
  go_ret
  exact ⟨rfl, rfl⟩
theorem hHand {w : World} {p : Option Addr} (h : Hollow w p) (i : Int) : Calls Try.prog 9 #[.pointer p, .int .i64 i] w fun r w' => r = .returned (.tuple #[.int .i64 0, .int .i64 0, .bool false]) ∧ w = w' := by
  have H := Lib.hid h; clear h
  go_enter Try.func9, Try.ntmps9
  go_wp2_with (go_at_call 19; refine (hCore H.out _).mono ?_; rintro r w' ⟨rfl, rfl⟩)
  refine bodyPost_ret (results_tmp3 rfl _ _ _) rfl ?_
  exact ⟨rfl, rfl⟩
theorem hPend {w : World} {p : Option Addr} (h : Hollow w p) (g : Int) : Calls Try.prog 11 #[.pointer p, .int .i64 g] w fun r w' => r = .returned (.int .i64 0) ∧ Below w.heap.size w w' := by
  rcases h with rfl | ⟨b, rfl, h⟩
  · exact pending_nil w g
  · have hb := h.lt
    have c0 : w.cell? ⟨b, 0, none⟩ = some (.slice none 0 0) := h.cell 0
    clear h
    go_enter Try.func11, Try.ntmps11
    go_wp2
    refine wp_loop_rounds 1 ?_
    rw [rounds_succ]
    go_wp2
    go_ret
    exact ⟨rfl, ((Below.refl _ w).alloc (Nat.le_refl _) _).alloc (by simp) _⟩
abbrev hEnc (j : Nat) : Array Value := #[.int .i64 (j : Int), .agg #[]]
theorem hQueue1 (n B1 B2 n₀ : Nat) (p : Option Addr) (i : Int) (w0 : World) (hb1 : Blk w0 B1 23 #[.pointer p]) (hb2 : Blk w0 B2 3 #[.int .i64 i]) (hL : Hollow w0 p) :
    SeqStopsK Fence.wide n Try.prog 24 #[.pointer (some ⟨B1, 0, none⟩), .pointer (some ⟨B2, 0, none⟩)] hEnc (Below n₀) (fun ys => ys = []) (fun _ => False) 0 w0 := fun l J Jx W hW hJ _ hY h0 => by
  have HL := Lib.hid (hL.below hW)
  have k0 : W.cell? ⟨B1, 0, none⟩ = some (.pointer p) := (hb1.below hW hb1.lt).cell 0
  have k1 : W.cell? ⟨B2, 0, none⟩ = some (.int .i64 i) := (hb2.below hW hb2.lt).cell 0
  clear hL hb1 hb2
  refine callsIn_of_wp Try.func24 rfl trivial ?_ rfl
  simp only [Try.ntmps24, List.size_toArray, List.length_cons, List.length_nil, Nat.reduceAdd, Nat.reduceSub, Array.replicate_succ, Array.replicate_zero, List.push_toArray, List.append_toArray, List.nil_append, List.cons_append]
  gi_wp2_with (gi_at_call 19; refine (callsIn_wide.2 (hCore HL.out _)).mono ?_; rintro r w' ⟨rfl, rfl⟩)
  refine wpIn_loop_rounds 1 ?_
  rw [roundsIn_succ]
  gi_wp2_with fail
  go_end0
  exact ⟨⟨_, rfl⟩, .inl ⟨_, rfl, h0⟩⟩

/-- Between two steps of Nobody. -/
def nI (w : World) (a : SAct) (_ : List Nat) (W : World) : Prop :=
  (Blk W w.heap.size 41 a.cells ∧ Blk W (w.heap.size + 1) 4 #[.bool false]) ∧ Below w.heap.size w W
def hX (_ : Code) (_ : List Nat) (_ : World) : Prop := False

set_option maxRecDepth 100000 in
set_option maxHeartbeats 4000000 in
theorem nobody_in (a : SAct) (w : World) :
    CallsIn Fence.wide 9 Try.prog 6 #[.agg a.cells] w fun r w' => r = .returned (.bool true) ∧ Below w.heap.size w w' := by
  have hfn : ∀ (x : Fn) (y z : Array Value) (w : World), (binOp .eql 51 (.func x y z) .nilFunc).run Try.prog w = .ok (.bool false) w := fun _ _ _ _ => by kernel_rfl
  obtain ⟨af, aff, at', ac⟩ := a
  refine callsIn_of_wp_marks Try.func6 rfl trivial ?_ rfl
  simp only [SAct.cells, Try.ntmps6, List.size_toArray, List.length_cons, List.length_nil, Nat.reduceAdd, Nat.reduceSub, Array.replicate_succ, Array.replicate_zero, List.push_toArray, List.append_toArray, List.nil_append, List.cons_append]
  gi_wp2_with fail
  obtain ⟨W0, hW0⟩ : ∃ W0, (w.alloc (.cells #[.bool af, .int .i64 aff, .int .i64 at', .int .i64 ac] 41)).alloc (.cells #[.bool false] 4) = W0 := ⟨_, rfl⟩
  have hsz : W0.heap.size = w.heap.size + 2 := by rw [← hW0]; simp
  have b1 : Blk W0 w.heap.size 41 #[.bool af, .int .i64 aff, .int .i64 at', .int .i64 ac] := by rw [← hW0]; exact (Blk.new' _ _ (by simp)).alloc _
  have b2 : Blk W0 (w.heap.size + 1) 4 #[.bool false] := by rw [← hW0]; exact Blk.new' _ _ (by simp)
  have hB0 : Below w.heap.size w W0 := by rw [← hW0]; exact ((Below.refl _ w).alloc (Nat.le_refl _) _).alloc (by simp) _
  rw [hW0]
  clear hW0
  refine wpIn_loop_rounds 3 ?_
  rw [roundsIn_succ]
  have r1 : W0.cell? ⟨w.heap.size, 1, none⟩ = some (.int .i64 aff) := b1.cell 1
  have r2 : W0.cell? ⟨w.heap.size, 2, none⟩ = some (.int .i64 at') := b1.cell 2
  have r3 : W0.cell? ⟨w.heap.size, 3, none⟩ = some (.int .i64 ac) := b1.cell 3
  gi_wp2_with (first
    | (gi_at_call 15; refine (callsIn_wide.2 (hPost (.inl rfl) _ _)).mono ?_; rintro r w' ⟨rfl, rfl⟩)
    | (gi_at_call 9; refine (callsIn_wide.2 (hHand (.inl rfl) _)).mono ?_; rintro r w' ⟨rfl, rfl⟩)
    | (gi_at_call 10; refine (callsIn_wide.2 (hWait (.inl rfl) _)).mono ?_; rintro r w' ⟨rfl, rfl⟩)
    | (gi_at_call 11; refine (callsIn_wide.2 (hPend (.inl rfl) _)).mono ?_; rintro r w2 ⟨rfl, B2⟩)
    | (gi_at_call 13; refine (callsIn_wide.2 (hLast (.inl rfl))).mono ?_; rintro r w' ⟨rfl, rfl⟩)
    | (gi_at_call 16; refine (callsIn_wide.2 (queue_any _ _ _)).mono ?_; rintro r w' ⟨rfl, rfl⟩))
  obtain ⟨W2, hW2⟩ : ∃ W2, (((w2.alloc (.cells #[.pointer none] 23)).alloc (.cells #[.int .i64 0] 3)).alloc (.cells #[.pointer none] 23)).alloc (.cells #[.int .i64 0] 3) = W2 := ⟨_, rfl⟩
  have hsz2 : W2.heap.size = w2.heap.size + 4 := by rw [← hW2]; simp
  have B02 : Below W0.heap.size W0 W2 := by rw [← hW2]; exact ((((B2.alloc B2.size _).alloc (by have := B2.size; simp; omega) _).alloc (by have := B2.size; simp; omega) _).alloc (by have := B2.size; simp; omega) _)
  have e1 := b1.below B02 b1.lt
  have e2 := b2.below B02 b2.lt
  have q1 : Blk W2 (w2.heap.size + 1 + 1) 23 #[.pointer none] := by rw [← hW2]; exact (Blk.new' _ _ (by simp)).alloc _
  have q2 : Blk W2 (w2.heap.size + 1 + 1 + 1) 3 #[.int .i64 0] := by rw [← hW2]; exact Blk.new' _ _ (by simp)
  have B4 : Below w.heap.size w W2 := hB0.trans (B02.mono hB0.size)
  rw [hW2]
  clear hW2 B2 B02 r1 r2 r3 b1 b2 hB0
  refine rangeW (by omega) (gf := 24) (lb := #[.pointer (some ⟨w2.heap.size + 1 + 1, 0, none⟩), .pointer (some ⟨w2.heap.size + 1 + 1 + 1, 0, none⟩)]) rfl (enters_of Try.func24 (by kernel_rfl) rfl)
    (n₀ := W2.heap.size) (Nat.le_refl _) (hQueue1 8 _ _ W2.heap.size none 0 W2 q1 q2 (.inl rfl)) (fun _ => rfl)
    (nI w ⟨af, aff, at', ac⟩) hX
    (fun t A B row hs hg hr => ⟨⟨blk_kept hs.1.1 hg hr, blk_kept hs.1.2 hg hr⟩, own_blw (by have := B4.size; omega) hs.2 (Nat.le_refl _) hg hr⟩)
    (fun c t A B row hs _ _ => hs)
    ⟨⟨e1, e2⟩, B4⟩
    (fun T x a' W => True)
    (fun T x a' t A B row hs hg hr => trivial) ?assign ?body ?done ?stop
  case assign =>
    rintro l pre x W K hz ⟨⟨d1, d2⟩, hB⟩ hK
    gi_wp2
    exact hK _ _ ((KeepsOthers.refl W).from _) (Below.refl _ W) ⟨⟨d1, d2⟩, hB⟩ trivial
  case body =>
    intro l pre x a' W _ _ _ hlt
    exact absurd hlt (Nat.not_lt_zero _)
  case stop =>
    intro D c pre W _ _ h
    exact h.elim
  case done =>
    rintro D ys W hD hz rfl ⟨⟨c2, c3⟩, hB⟩ hK
    have hww := B4.size
    clear e1 e2 q1 q2 B4
    gi_wp2_with fail
    rw [roundsIn_succ]
    obtain ⟨V0, hV0⟩ : ∃ V0, W.alloc (.cells #[.slice none 0 0, .int .i64 0] 46) = V0 := ⟨_, rfl⟩
    have hvz : V0.heap.size = W.heap.size + 1 := by rw [← hV0]; simp
    have g1 : Blk V0 w.heap.size 41 (SAct.cells ⟨af, aff, at', ac⟩) := by rw [← hV0]; exact c2.alloc _
    have g2 : Blk V0 (w.heap.size + 1) 4 #[.bool false] := by rw [← hV0]; exact c3.alloc _
    have g3 : Hollow V0 (some ⟨W.heap.size, 0, none⟩) := .inr ⟨_, rfl, by rw [← hV0]; exact Blk.new _ _ _⟩
    have gB : Below w.heap.size w V0 := by rw [← hV0]; exact hB.alloc hB.size _
    have gD : Below W.heap.size W V0 := by rw [← hV0]; exact (Below.refl _ W).alloc (Nat.le_refl _) _
    have gK := Lib.hid hK
    have r1 : V0.cell? ⟨w.heap.size, 1, none⟩ = some (.int .i64 aff) := g1.cell 1
    have r2 : V0.cell? ⟨w.heap.size, 2, none⟩ = some (.int .i64 at') := g1.cell 2
    have r3 : V0.cell? ⟨w.heap.size, 3, none⟩ = some (.int .i64 ac) := g1.cell 3
    clear c2 c3 hB hK
    gi_wp2_with (first
      | (gi_at_call 15; refine (callsIn_wide.2 (hPost g3 _ _)).mono ?_; rintro r w' ⟨rfl, rfl⟩)
      | (gi_at_call 9; refine (callsIn_wide.2 (hHand g3 _)).mono ?_; rintro r w' ⟨rfl, rfl⟩)
      | (gi_at_call 10; refine (callsIn_wide.2 (hWait g3 _)).mono ?_; rintro r w' ⟨rfl, rfl⟩)
      | (gi_at_call 11; refine (callsIn_wide.2 (hPend g3 _)).mono ?_; rintro r w3 ⟨rfl, B3⟩)
      | (gi_at_call 13; refine (callsIn_wide.2 (hLast (g3.below B3))).mono ?_; rintro r w' ⟨rfl, rfl⟩)
      | (gi_at_call 16; refine (callsIn_wide.2 (queue_any _ _ _)).mono ?_; rintro r w' ⟨rfl, rfl⟩))
    obtain ⟨V2, hV2⟩ : ∃ V2, (((w3.alloc (.cells #[.pointer (some ⟨W.heap.size, 0, none⟩)] 23)).alloc (.cells #[.int .i64 0] 3)).alloc (.cells #[.pointer (some ⟨W.heap.size, 0, none⟩)] 23)).alloc (.cells #[.int .i64 0] 3) = V2 := ⟨_, rfl⟩
    have hvz2 : V2.heap.size = w3.heap.size + 4 := by rw [← hV2]; simp
    have B02 : Below V0.heap.size V0 V2 := by rw [← hV2]; exact ((((B3.alloc B3.size _).alloc (by have := B3.size; simp; omega) _).alloc (by have := B3.size; simp; omega) _).alloc (by have := B3.size; simp; omega) _)
    have e1 := g1.below B02 g1.lt
    have e2 := g2.below B02 g2.lt
    have e4 := g3.below B02
    have q1 : Blk V2 (w3.heap.size + 1 + 1) 23 #[.pointer (some ⟨W.heap.size, 0, none⟩)] := by rw [← hV2]; exact (Blk.new' _ _ (by simp)).alloc _
    have q2 : Blk V2 (w3.heap.size + 1 + 1 + 1) 3 #[.int .i64 0] := by rw [← hV2]; exact Blk.new' _ _ (by simp)
    have B4 : Below w.heap.size w V2 := gB.trans (B02.mono gB.size)
    have D4 : Below W.heap.size W V2 := gD.trans (B02.mono gD.size)
    rw [hV2]
    clear hV2 B3 B02 r1 r2 r3 g1 g2 g3 gB gD
    refine rangeW (by omega) (gf := 24) (lb := #[.pointer (some ⟨w3.heap.size + 1 + 1, 0, none⟩), .pointer (some ⟨w3.heap.size + 1 + 1 + 1, 0, none⟩)]) rfl (enters_of Try.func24 (by kernel_rfl) rfl)
      (n₀ := V2.heap.size) (Nat.le_refl _) (hQueue1 8 _ _ V2.heap.size _ 0 V2 q1 q2 e4) (fun _ => rfl)
      (fun pre W' => nI w ⟨af, aff, at', ac⟩ pre W' ∧ Below V2.heap.size V2 W') hX
      (fun t A B row hs hg hr => ⟨⟨⟨blk_kept hs.1.1.1 hg hr, blk_kept hs.1.1.2 hg hr⟩, own_blw (by have := B4.size; omega) hs.1.2 (Nat.le_refl _) hg hr⟩, own_blw (Nat.le_refl _) hs.2 (Nat.le_refl _) hg hr⟩)
      (fun c t A B row hs _ _ => hs)
      ⟨⟨⟨e1, e2⟩, B4⟩, Below.refl _ _⟩
      (fun T x a' W => True)
      (fun T x a' t A B row hs hg hr => trivial) ?assign ?body ?done ?stop
    case assign =>
      rintro l pre x W' K hz ⟨⟨⟨d1, d2⟩, hB⟩, hBB⟩ hK
      gi_wp2
      exact hK _ _ ((KeepsOthers.refl W').from _) (Below.refl _ W') ⟨⟨⟨d1, d2⟩, hB⟩, hBB⟩ trivial
    case body =>
      intro l pre x a' W _ _ _ hlt
      exact absurd hlt (Nat.not_lt_zero _)
    case stop =>
      intro D c pre W _ _ h
      exact h.elim
    case done =>
      rintro D' ys V hD' hz' rfl ⟨⟨⟨c2, c3⟩, hB⟩, hBB⟩ hK
      have B4' := B4.size
      clear e1 e2 e4 q1 q2 B4
      have m1 := D4.trans (hBB.mono D4.size)
      gi_wp2_with fail
      rw [roundsIn_succ]
      gi_wp2_with fail
      refine (callsIn_wide.2 (awake_any _)).mono ?_
      rintro r w5 ⟨rfl, B5⟩
      have c4 := c3.below B5 c3.lt
      have k4 : w5.cell? ⟨w.heap.size + 1, 0, none⟩ = some (.bool false) := c4.cell 0
      have k5 : w5.frozen? ⟨w.heap.size + 1, 0, none⟩ = false := c4.frozen 0
      gi_wp2_with fail
      have hd : D < W.heap.size := (Array.getElem?_eq_some_iff.1 gK.out).1
      have v1 : V.heap[D]? = some (.deferred (some [])) := (m1.block D hd).trans gK.out
      have v2 : w5.heap[D]? = some (.deferred (some [])) := (B5.block D (Nat.lt_of_lt_of_le hd m1.size)).trans v1
      have v3 : w5.heap[D']? = some (.deferred (some [])) := (B5.block D' (Array.getElem?_eq_some_iff.1 hK).1).trans hK
      have v4 := (KeepsOthers.setCell w5 ⟨w.heap.size + 1, 0, none⟩ (.bool true)).same D _ v2 rfl
      have v5 := (KeepsOthers.setCell w5 ⟨w.heap.size + 1, 0, none⟩ (.bool true)).same D' _ v3 rfl
      have hne : D < D' := by have := D4.size; omega
      have hM : Marked (w5.setCell ⟨w.heap.size + 1, 0, none⟩ (.bool true)) w.heap.size [D', D] :=
        ((Marked.nil _ _).cons (by omega) v4 (fun _ h => by cases h)).cons (by omega) v5 (fun E hE => by simp at hE; omega)
      have B6 : Below w.heap.size w w5 := hB.trans (B5.mono hB.size)
      have B7 : Below w.heap.size w (w5.setCell ⟨w.heap.size + 1, 0, none⟩ (.bool true)) := B6.setCell (p := ⟨w.heap.size + 1, 0, none⟩) (by simp) _
      refine leaves_marks _ (by simp) _ [D', D] _ hM (fun w' hw' => ?_)
      exact ⟨_, results_cell1 rfl _ _ rfl (run_loadVar_one _ _ _ 4 4 _ _ _ ((c4.set_ 0 (.bool true)).past hM hw') Try.underlying4 rfl rfl), rfl, below_past B7 hM hw' B7.size⟩
theorem nobody (a : SAct) (w : World) :
    Calls Try.prog 6 #[a.val] w fun r w' => r = .returned (.bool true) ∧ Below w.heap.size w w' := callsIn_wide.1 (nobody_in a w)
end Go.Proofs.Ytfekllnalacggaa
