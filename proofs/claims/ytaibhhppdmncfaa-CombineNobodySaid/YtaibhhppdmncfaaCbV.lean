/- Combine: the law Nobody, walked. -/
import Derived.Test.YtaibhhppdmncfaaCbT
namespace Go.Proofs.Ytaibhhppdmncfaa
open Go.RowKit Go.Maps Go.Shelf
attribute [local go_sem] Oper.semAt_some

abbrev z61 : Array Value := #[.int .i64 0, .int .i64 0, .int .i64 0, .map none, .slice none 0 0, .bool false, .int .i64 0]
/-- No combiner, or one that New did not make. -/
def Hollow (w : World) (p : Option Addr) : Prop := p = none ∨ ∃ b, p = some ⟨b, 0, none⟩ ∧ Blk w b 61 z61
theorem Hollow.below {w w' : World} {p : Option Addr} (h : Hollow w p) (hb : Below w.heap.size w w') : Hollow w' p := by
  rcases h with rfl | ⟨b, rfl, h⟩
  · exact .inl rfl
  · exact .inr ⟨b, rfl, h.below hb h.lt⟩
theorem hIs {w : World} {p : Option Addr} (h : Hollow w p) : Calls Try.prog 23 #[.pointer p] w fun r w' => r = .returned (.bool false) ∧ w = w' := by
  rcases h with rfl | ⟨b, rfl, h⟩
  · exact is_nil w
  · exact is_blk w b none (h.cell 3)
theorem hOwn {w : World} {p : Option Addr} (h : Hollow w p) (i : Int) : Calls Try.prog 33 #[.pointer p, .int .i64 i] w fun r w' => r = .returned (.bool false) ∧ w.drew = w' := own_no w p i (hIs (h.below (Below.refl _ w).drew))
theorem hNext {w : World} {p : Option Addr} (h : Hollow w p) : Calls Try.prog 9 #[.pointer p] w fun r w' => r = .returned (.tuple #[.agg #[.int .i64 0, .int .i64 0, .int .i64 0, .int .i64 0, .int .i64 0, .int .i64 0, .int .i64 0, .int .i64 0, .int .i64 0], .bool false]) ∧ Below w.heap.size w w' := next_no w p (hIs (h.below ((Below.refl _ w).alloc (Nat.le_refl _) _)))
theorem hPost {w : World} {p : Option Addr} (h : Hollow w p) (i : Int) (x : Cl) : Calls Try.prog 20 #[.pointer p, .int .i64 i, x.val] w fun r w' => r = .returned (.int .i64 1) ∧ Below w.heap.size w w' := by
  have hown := hOwn (h.below ((Below.refl _ w).alloc (Nat.le_refl _) (.cells x.cells.toArray 33))) i
  obtain ⟨W1, hW1⟩ : ∃ W1, w.alloc (.cells x.cells.toArray 33) = W1 := ⟨_, rfl⟩
  rw [hW1] at hown
  have H := Lib.hid hown
  have HW := Lib.hid hW1
  obtain ⟨k1, k2, k3, k4, k5, k6, k7, k8⟩ := x
  clear hown hW1 h
  simp only [Cl.val, Cl.cells] at HW ⊢
  go_enter Try.func20, Try.ntmps20
  go_wp2_with ((rw [HW.out]; go_at_call 33; refine (H.out).mono ?_; rintro r w' ⟨rfl, rfl⟩))
  go_ret
  exact ⟨rfl, by rw [← HW.out]; exact ((Below.refl _ w).alloc (Nat.le_refl _) _).drew⟩
abbrev hEnc (j : Nat) : Array Value := #[.int .i64 (j : Int)]
theorem hSlots1 (n B1 n₀ : Nat) (p : Option Addr) (w0 : World) (hb1 : Blk w0 B1 25 #[.pointer p]) (hL : Hollow w0 p) :
    SeqStopsK Fence.wide n Try.prog 29 #[.pointer (some ⟨B1, 0, none⟩)] hEnc (Below n₀) (fun ys => ys = []) (fun _ => False) 0 w0 := fun l J Jx W hW hJ _ hY h0 => by
  have HL := Lib.hid (hL.below hW)
  have k1 : W.cell? ⟨B1, 0, none⟩ = some (.pointer p) := (hb1.below hW hb1.lt).cell 0
  clear hL hb1
  refine callsIn_of_wp Try.func29 rfl trivial ?_ rfl
  simp only [Try.ntmps29, List.size_toArray, List.length_cons, List.length_nil, Nat.reduceAdd, Nat.reduceSub, Array.replicate_succ, Array.replicate_zero, List.push_toArray, List.append_toArray, List.nil_append, List.cons_append]
  gi_wp2_with (gi_at_call 23; refine (callsIn_wide.2 (hIs HL.out)).mono ?_; rintro r w' ⟨rfl, rfl⟩)
  refine bodyPost_ret (results_none rfl _ _ _) rfl ?_
  exact ⟨⟨_, rfl⟩, .inl ⟨_, rfl, h0⟩⟩

/-- Between two steps of Nobody. -/
def nI (w : World) (cs : Array Value) (_ : List Nat) (W : World) : Prop :=
  (Blk W w.heap.size 35 cs ∧ Blk W (w.heap.size + 1) 4 #[.bool false]) ∧ Below w.heap.size w W
def hX (_ : Code) (_ : List Nat) (_ : World) : Prop := False

set_option maxRecDepth 100000 in
set_option maxHeartbeats 8000000 in
theorem nobody_in (a : CAct) (w : World) :
    CallsIn Fence.wide 9 Try.prog 6 #[.agg a.cells] w fun r w' => r = .returned (.bool true) ∧ Below w.heap.size w w' := by
  have hfn : ∀ (x : Fn) (y z : Array Value) (w : World), (binOp .eql 46 (.func x y z) .nilFunc).run Try.prog w = .ok (.bool false) w := fun _ _ _ _ => by kernel_rfl
  have hbd : ∀ w, (Instr.build 61 #[]).run Try.prog w = .ok (.agg z61) w := fun _ => by kernel_rfl
  obtain ⟨d, co, ⟨k1, k2, k3, k4, k5, k6, k7, k8⟩, ix⟩ := a
  refine callsIn_of_wp_marks Try.func6 rfl trivial ?_ rfl
  simp only [CAct.cells, Try.ntmps6, List.size_toArray, List.length_cons, List.length_nil, Nat.reduceAdd, Nat.reduceSub, Array.replicate_succ, Array.replicate_zero, List.push_toArray, List.append_toArray, List.nil_append, List.cons_append]
  gi_wp2_with fail
  obtain ⟨W0, hW0⟩ : ∃ W0, (w.alloc (.cells #[.int .i64 d, .int .i64 co, .int .i64 k1, .int .i64 k2, .int .i64 k3, .int .i64 k4, .int .i64 k5, .int .i64 k6, .int .i64 k7, .int .i64 k8, .int .i64 ix] 35)).alloc (.cells #[.bool false] 4) = W0 := ⟨_, rfl⟩
  have hsz : W0.heap.size = w.heap.size + 2 := by rw [← hW0]; simp
  have b1 : Blk W0 w.heap.size 35 #[.int .i64 d, .int .i64 co, .int .i64 k1, .int .i64 k2, .int .i64 k3, .int .i64 k4, .int .i64 k5, .int .i64 k6, .int .i64 k7, .int .i64 k8, .int .i64 ix] := by rw [← hW0]; exact (Blk.new' _ _ (by simp)).alloc _
  have b2 : Blk W0 (w.heap.size + 1) 4 #[.bool false] := by rw [← hW0]; exact Blk.new' _ _ (by simp)
  have hB0 : Below w.heap.size w W0 := by rw [← hW0]; exact ((Below.refl _ w).alloc (Nat.le_refl _) _).alloc (by simp) _
  rw [hW0]
  clear hW0
  refine wpIn_loop_rounds 3 ?_
  rw [roundsIn_succ]
  have H0a := Lib.hid (show Hollow W0 none from .inl rfl)
  have HAa := Lib.hid b1
  have HFa := Lib.hid b2
  gi_wp2_with (first
    | (gi_at_call 9; refine (callsIn_wide.2 (hNext H0a.out)).mono ?_; rintro r w1a ⟨rfl, B1⟩; have X1 := (HAa.out).below B1 HAa.out.lt; have xf0 := X1.cell 0; have xf1 := X1.cell 1; have xf2 := X1.cell 2; have xf3 := X1.cell 3; have xf4 := X1.cell 4; have xf5 := X1.cell 5; have xf6 := X1.cell 6; have xf7 := X1.cell 7; have xf8 := X1.cell 8; have xf9 := X1.cell 9; have xf10 := X1.cell 10; have lx1 := X1.lt; have H1a := Lib.hid (H0a.out.below (B1.alloc B1.size (.cells #[.int .i64 0, .int .i64 0, .int .i64 0, .int .i64 0, .int .i64 0, .int .i64 0, .int .i64 0, .int .i64 0, .int .i64 0] 37))); have HB1a := Lib.hid B1; clear B1 X1)
    | (gi_at_call 17; refine (callsIn_wide.2 (index_no _ _ _ (hIs H1a.out))).mono ?_; rintro r w' ⟨rfl, rfl⟩)
    | (gi_at_call 14; refine (callsIn_wide.2 (holder_no _ _ (hIs H1a.out))).mono ?_; rintro r w' ⟨rfl, rfl⟩)
    | (gi_at_call 20; refine (callsIn_wide.2 (hPost H1a.out co ⟨k1, k2, k3, k4, k5, k6, k7, k8⟩)).mono ?_; rintro r w2a ⟨rfl, B2⟩; have BB := (HB1a.out.alloc HB1a.out.size (.cells #[.int .i64 0, .int .i64 0, .int .i64 0, .int .i64 0, .int .i64 0, .int .i64 0, .int .i64 0, .int .i64 0, .int .i64 0] 37)).trans (B2.mono (by have := HB1a.out.size; simp; omega)); have X2 := (HAa.out).below BB HAa.out.lt; have yf1 := X2.cell 1; have yf10 := X2.cell 10; have lx2 := X2.lt; have H2a := Lib.hid (H1a.out.below B2); have HB2a := Lib.hid BB; clear B2 BB X2)
    | (gi_at_call 15; refine (callsIn_wide.2 (elect_nil _ _ _ (hIs (H2a.out.below (Below.refl _ _).drew)))).mono ?_; rintro r w' ⟨rfl, rfl⟩; have H3a := Lib.hid (H2a.out.below (Below.refl _ _).drew))
    | (gi_at_call 16; refine (callsIn_wide.2 (deliver_no _ _ _ (hIs H3a.out))).mono ?_; rintro r w' ⟨rfl, rfl⟩)
    | (gi_at_call 18; refine (callsIn_wide.2 (done_no _ _ _ (hIs H3a.out))).mono ?_; rintro r w' ⟨rfl, rfl⟩)
    | (gi_at_call 19; refine (callsIn_wide.2 (release_no _ _ _ (hIs H3a.out))).mono ?_; rintro r w' ⟨rfl, rfl⟩)
    | (gi_at_call 11; refine (callsIn_wide.2 (slots_any _ _)).mono ?_; rintro r w' ⟨rfl, rfl⟩))
  obtain ⟨W2, hW2⟩ : ∃ W2, ((w2a.alloc (.cells #[.pointer none] 25)).alloc (.cells #[.pointer none] 25)).drew = W2 := ⟨_, rfl⟩
  have hsz2 : W2.heap.size = w2a.heap.size + 2 := by rw [← hW2]; simp
  have B02 : Below W0.heap.size W0 W2 := by rw [← hW2]; exact ((HB2a.out.alloc HB2a.out.size _).alloc (by have := HB2a.out.size; simp; omega) _).drew
  have e1 := HAa.out.below B02 HAa.out.lt
  have e2 := HFa.out.below B02 HFa.out.lt
  have q1 : Blk W2 (w2a.heap.size + 1) 25 #[.pointer none] := by rw [← hW2]; exact (Blk.new' _ _ (by simp)).drew
  have B4 : Below w.heap.size w W2 := hB0.trans (B02.mono hB0.size)
  rw [hW2]
  clear hW2 B02 b1 b2 hB0
  refine rangeW (by omega) (gf := 29) (lb := #[.pointer (some ⟨w2a.heap.size + 1, 0, none⟩)]) rfl (enters_of Try.func29 (by kernel_rfl) rfl)
    (n₀ := W2.heap.size) (Nat.le_refl _) (hSlots1 8 _ W2.heap.size none W2 q1 (.inl rfl)) (fun _ => rfl)
    (nI w #[.int .i64 d, .int .i64 co, .int .i64 k1, .int .i64 k2, .int .i64 k3, .int .i64 k4, .int .i64 k5, .int .i64 k6, .int .i64 k7, .int .i64 k8, .int .i64 ix]) hX
    (fun t A B row hs hg hr => ⟨⟨blk_kept hs.1.1 hg hr, blk_kept hs.1.2 hg hr⟩, own_blw (by have := B4.size; omega) hs.2 (Nat.le_refl _) hg hr⟩)
    (fun c t A B row hs _ _ => hs)
    ⟨⟨e1, e2⟩, B4⟩
    (fun T x a' W => True)
    (fun T x a' t A B row hs hg hr => trivial) ?assign ?body ?done ?stop
  case assign =>
    rintro l pre x W K hz ⟨⟨d1, d2⟩, hB⟩ hK
    gi_wp2
    exact hK _ _ ((KeepsOthers.refl W).from _) (Below.refl _ W) ⟨⟨d1, d2⟩, hB⟩ trivial
  case body =>
    intro l pre x a' W _ _ _ hlt
    exact absurd hlt (Nat.not_lt_zero _)
  case stop =>
    intro D c pre W _ _ h
    exact h.elim
  case done =>
    rintro D ys W hD hz rfl ⟨⟨c2, c3⟩, hB⟩ hK
    have hww := B4.size
    clear e1 e2 q1 B4
    gi_wp2_with fail
    rw [roundsIn_succ]
    obtain ⟨V0, hV0⟩ : ∃ V0, W.alloc (.cells z61 61) = V0 := ⟨_, rfl⟩
    have hvz : V0.heap.size = W.heap.size + 1 := by rw [← hV0]; simp
    have g1 : Blk V0 w.heap.size 35 #[.int .i64 d, .int .i64 co, .int .i64 k1, .int .i64 k2, .int .i64 k3, .int .i64 k4, .int .i64 k5, .int .i64 k6, .int .i64 k7, .int .i64 k8, .int .i64 ix] := by rw [← hV0]; exact c2.alloc _
    have g2 : Blk V0 (w.heap.size + 1) 4 #[.bool false] := by rw [← hV0]; exact c3.alloc _
    have g3 : Hollow V0 (some ⟨W.heap.size, 0, none⟩) := .inr ⟨_, rfl, by rw [← hV0]; exact Blk.new _ _ _⟩
    have gB : Below w.heap.size w V0 := by rw [← hV0]; exact hB.alloc hB.size _
    have gD : Below W.heap.size W V0 := by rw [← hV0]; exact (Below.refl _ W).alloc (Nat.le_refl _) _
    have gK := Lib.hid hK
    clear c2 c3 hB hK
    have HV0 := Lib.hid hV0
    clear hV0
    have H0b := Lib.hid (show Hollow V0 (some ⟨W.heap.size, 0, none⟩) from g3)
    have HAb := Lib.hid g1
    have HFb := Lib.hid g2
    gi_wp2_with (first
      | (rw [HV0.out]; gi_at_call 9; refine (callsIn_wide.2 (hNext H0b.out)).mono ?_; rintro r w1b ⟨rfl, B1⟩; have X1 := (HAb.out).below B1 HAb.out.lt; have xf0 := X1.cell 0; have xf1 := X1.cell 1; have xf2 := X1.cell 2; have xf3 := X1.cell 3; have xf4 := X1.cell 4; have xf5 := X1.cell 5; have xf6 := X1.cell 6; have xf7 := X1.cell 7; have xf8 := X1.cell 8; have xf9 := X1.cell 9; have xf10 := X1.cell 10; have lx1 := X1.lt; have H1b := Lib.hid (H0b.out.below (B1.alloc B1.size (.cells #[.int .i64 0, .int .i64 0, .int .i64 0, .int .i64 0, .int .i64 0, .int .i64 0, .int .i64 0, .int .i64 0, .int .i64 0] 37))); have HB1b := Lib.hid B1; clear B1 X1)
      | (gi_at_call 17; refine (callsIn_wide.2 (index_no _ _ _ (hIs H1b.out))).mono ?_; rintro r w' ⟨rfl, rfl⟩)
      | (gi_at_call 14; refine (callsIn_wide.2 (holder_no _ _ (hIs H1b.out))).mono ?_; rintro r w' ⟨rfl, rfl⟩)
      | (gi_at_call 20; refine (callsIn_wide.2 (hPost H1b.out co ⟨k1, k2, k3, k4, k5, k6, k7, k8⟩)).mono ?_; rintro r w2b ⟨rfl, B2⟩; have BB := (HB1b.out.alloc HB1b.out.size (.cells #[.int .i64 0, .int .i64 0, .int .i64 0, .int .i64 0, .int .i64 0, .int .i64 0, .int .i64 0, .int .i64 0, .int .i64 0] 37)).trans (B2.mono (by have := HB1b.out.size; simp; omega)); have X2 := (HAb.out).below BB HAb.out.lt; have yf1 := X2.cell 1; have yf10 := X2.cell 10; have lx2 := X2.lt; have H2b := Lib.hid (H1b.out.below B2); have HB2b := Lib.hid BB; clear B2 BB X2)
      | (gi_at_call 15; refine (callsIn_wide.2 (elect_nil _ _ _ (hIs (H2b.out.below (Below.refl _ _).drew)))).mono ?_; rintro r w' ⟨rfl, rfl⟩; have H3b := Lib.hid (H2b.out.below (Below.refl _ _).drew))
      | (gi_at_call 16; refine (callsIn_wide.2 (deliver_no _ _ _ (hIs H3b.out))).mono ?_; rintro r w' ⟨rfl, rfl⟩)
      | (gi_at_call 18; refine (callsIn_wide.2 (done_no _ _ _ (hIs H3b.out))).mono ?_; rintro r w' ⟨rfl, rfl⟩)
      | (gi_at_call 19; refine (callsIn_wide.2 (release_no _ _ _ (hIs H3b.out))).mono ?_; rintro r w' ⟨rfl, rfl⟩)
      | (gi_at_call 11; refine (callsIn_wide.2 (slots_any _ _)).mono ?_; rintro r w' ⟨rfl, rfl⟩))
    obtain ⟨V2, hV2⟩ : ∃ V2, ((w2b.alloc (.cells #[.pointer (some ⟨W.heap.size, 0, none⟩)] 25)).alloc (.cells #[.pointer (some ⟨W.heap.size, 0, none⟩)] 25)).drew = V2 := ⟨_, rfl⟩
    have hvz2 : V2.heap.size = w2b.heap.size + 2 := by rw [← hV2]; simp
    have B02 : Below V0.heap.size V0 V2 := by rw [← hV2]; exact ((HB2b.out.alloc HB2b.out.size _).alloc (by have := HB2b.out.size; simp; omega) _).drew
    have e1 := HAb.out.below B02 HAb.out.lt
    have e2 := HFb.out.below B02 HFb.out.lt
    have e4 := H0b.out.below B02
    have q1 : Blk V2 (w2b.heap.size + 1) 25 #[.pointer (some ⟨W.heap.size, 0, none⟩)] := by rw [← hV2]; exact (Blk.new' _ _ (by simp)).drew
    have B4 : Below w.heap.size w V2 := gB.trans (B02.mono gB.size)
    have D4 : Below W.heap.size W V2 := gD.trans (B02.mono gD.size)
    rw [hV2]
    clear hV2 B02 g1 g2 g3 gB gD
    refine rangeW (by omega) (gf := 29) (lb := #[.pointer (some ⟨w2b.heap.size + 1, 0, none⟩)]) rfl (enters_of Try.func29 (by kernel_rfl) rfl)
      (n₀ := V2.heap.size) (Nat.le_refl _) (hSlots1 8 _ V2.heap.size _ V2 q1 e4) (fun _ => rfl)
      (fun pre W' => nI w #[.int .i64 d, .int .i64 co, .int .i64 k1, .int .i64 k2, .int .i64 k3, .int .i64 k4, .int .i64 k5, .int .i64 k6, .int .i64 k7, .int .i64 k8, .int .i64 ix] pre W' ∧ Below V2.heap.size V2 W') hX
      (fun t A B row hs hg hr => ⟨⟨⟨blk_kept hs.1.1.1 hg hr, blk_kept hs.1.1.2 hg hr⟩, own_blw (by have := B4.size; omega) hs.1.2 (Nat.le_refl _) hg hr⟩, own_blw (Nat.le_refl _) hs.2 (Nat.le_refl _) hg hr⟩)
      (fun c t A B row hs _ _ => hs)
      ⟨⟨⟨e1, e2⟩, B4⟩, Below.refl _ _⟩
      (fun T x a' W => True)
      (fun T x a' t A B row hs hg hr => trivial) ?assign ?body ?done ?stop
    case assign =>
      rintro l pre x W' K hz ⟨⟨⟨d1, d2⟩, hB⟩, hBB⟩ hK
      gi_wp2
      exact hK _ _ ((KeepsOthers.refl W').from _) (Below.refl _ W') ⟨⟨⟨d1, d2⟩, hB⟩, hBB⟩ trivial
    case body =>
      intro l pre x a' W _ _ _ hlt
      exact absurd hlt (Nat.not_lt_zero _)
    case stop =>
      intro D c pre W _ _ h
      exact h.elim
    case done =>
      rintro D' ys V hD' hz' rfl ⟨⟨⟨c2, c3⟩, hB⟩, hBB⟩ hK
      have B4' := B4.size
      clear e1 e2 e4 q1 B4
      have m1 := D4.trans (hBB.mono D4.size)
      gi_wp2_with fail
      rw [roundsIn_succ]
      gi_wp2_with fail
      refine (callsIn_wide.2 (awake_any _)).mono ?_
      rintro r w5 ⟨rfl, B5⟩
      have c4 := c3.below B5 c3.lt
      have k4 : w5.cell? ⟨w.heap.size + 1, 0, none⟩ = some (.bool false) := c4.cell 0
      have k5 : w5.frozen? ⟨w.heap.size + 1, 0, none⟩ = false := c4.frozen 0
      gi_wp2_with fail
      have hd : D < W.heap.size := (Array.getElem?_eq_some_iff.1 gK.out).1
      have v1 : V.heap[D]? = some (.deferred (some [])) := (m1.block D hd).trans gK.out
      have v2 : w5.heap[D]? = some (.deferred (some [])) := (B5.block D (Nat.lt_of_lt_of_le hd m1.size)).trans v1
      have v3 : w5.heap[D']? = some (.deferred (some [])) := (B5.block D' (Array.getElem?_eq_some_iff.1 hK).1).trans hK
      have v4 := (KeepsOthers.setCell w5 ⟨w.heap.size + 1, 0, none⟩ (.bool true)).same D _ v2 rfl
      have v5 := (KeepsOthers.setCell w5 ⟨w.heap.size + 1, 0, none⟩ (.bool true)).same D' _ v3 rfl
      have hne : D < D' := by have := D4.size; omega
      have hM : Marked (w5.setCell ⟨w.heap.size + 1, 0, none⟩ (.bool true)) w.heap.size [D', D] :=
        ((Marked.nil _ _).cons (by omega) v4 (fun _ h => by cases h)).cons (by omega) v5 (fun E hE => by simp at hE; omega)
      have B6 : Below w.heap.size w w5 := hB.trans (B5.mono hB.size)
      have B7 : Below w.heap.size w (w5.setCell ⟨w.heap.size + 1, 0, none⟩ (.bool true)) := B6.setCell (p := ⟨w.heap.size + 1, 0, none⟩) (by simp) _
      refine leaves_marks _ (by simp) _ [D', D] _ hM (fun w' hw' => ?_)
      exact ⟨_, results_cell1 rfl _ _ rfl (run_loadVar_one _ _ _ 4 4 _ _ _ ((c4.set_ 0 (.bool true)).past hM hw') Try.underlying4 rfl rfl), rfl, below_past B7 hM hw' B7.size⟩
theorem nobody (a : CAct) (w : World) :
    Calls Try.prog 6 #[a.val] w fun r w' => r = .returned (.bool true) ∧ Below w.heap.size w w' := callsIn_wide.1 (nobody_in a w)
end Go.Proofs.Ytaibhhppdmncfaa
