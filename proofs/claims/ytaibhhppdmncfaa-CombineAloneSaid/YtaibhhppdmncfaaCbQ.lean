/- Combine: Is. -/
import Derived.Test.YtaibhhppdmncfaaCbP
namespace Go.Proofs.Ytaibhhppdmncfaa
open Go.RowKit Go.Maps Go.Shelf
attribute [local go_sem] Oper.semAt_some
attribute [local go_sem ↓] ld49 st49
attribute [local go_sem] run_ld49 run_st49 sl_ones sl_size sl_take sl_extract sl_put sl_put' sl_len

theorem neq49 (x : Sl) (w : World) : (binOp .neq 49 (.agg x.cells.toArray) (.agg x.cells.toArray)).run Try.prog w = .ok (.bool false) w := by
  obtain ⟨co, ⟨e1, e2, e3, e4, e5, e6, e7, e8⟩, tk, td, ix⟩ := x
  simp only [Sl.cells]
  go_simp
theorem neq49_ne (x y : Sl) (h : x ≠ y) (w : World) : (binOp .neq 49 (.agg x.cells.toArray) (.agg y.cells.toArray)).run Try.prog w = .ok (.bool true) w := by
  obtain ⟨co, ⟨e1, e2, e3, e4, e5, e6, e7, e8⟩, tk, td, ix⟩ := x
  obtain ⟨co', ⟨e1', e2', e3', e4', e5', e6', e7', e8'⟩, tk', td', ix'⟩ := y
  have h' : ¬ (co = co' ∧ e1 = e1' ∧ e2 = e2' ∧ e3 = e3' ∧ e4 = e4' ∧ e5 = e5' ∧ e6 = e6' ∧ e7 = e7' ∧ e8 = e8' ∧ tk = tk' ∧ td = td' ∧ ix = ix') := by
    rintro ⟨rfl, rfl, rfl, rfl, rfl, rfl, rfl, rfl, rfl, rfl, rfl, rfl⟩
    exact h rfl
  simp only [Sl.cells]
  go_simp
  intro a0 a1 a2 a3 a4 a5 a6 a7 a8 a9 a10 a11
  exact h' ⟨by omega, a1, a2, a3, a4, a5, a6, a7, a8, a9, a10, a11⟩
theorem neq37 (a b c d e f g h i : Int) (w : World) : (binOp .neq 37 (.agg #[.int .i64 a, .int .i64 b, .int .i64 c, .int .i64 d, .int .i64 e, .int .i64 f, .int .i64 g, .int .i64 h, .int .i64 i]) (.agg #[.int .i64 a, .int .i64 b, .int .i64 c, .int .i64 d, .int .i64 e, .int .i64 f, .int .i64 g, .int .i64 h, .int .i64 i])).run Try.prog w = .ok (.bool false) w := by
  go_simp
attribute [local go_sem high] neq49 neq37
theorem nextV_form (s : Cb) : ∃ (a b c d e f g h i : Int) (t : Bool), nextV s = .tuple #[.agg #[.int .i64 a, .int .i64 b, .int .i64 c, .int .i64 d, .int .i64 e, .int .i64 f, .int .i64 g, .int .i64 h, .int .i64 i], .bool t] := by
  unfold nextV
  split
  · exact ⟨_, _, _, _, _, _, _, _, _, _, rfl⟩
  · exact ⟨0, 0, 0, 0, 0, 0, 0, 0, 0, false, rfl⟩
theorem holdV_form (o : Option Nat) : ∃ (a : Int) (t : Bool), holdV o = .tuple #[.int .i64 a, .bool t] := by
  cases o with
  | none => exact ⟨0, false, rfl⟩
  | some i => exact ⟨_, true, rfl⟩
theorem indexV_form (l : List Sl) (i : Int) : ∃ (a : Int) (t : Bool), indexV l i = .tuple #[.int .i64 a, .bool t] := by
  unfold indexV
  split
  · split
    · exact ⟨_, true, rfl⟩
    · exact ⟨0, false, rfl⟩
  · exact ⟨0, false, rfl⟩

/-- What stands while Is goes on. -/
structure IsB (w W : World) (C b br : Nat) (n : Int) : Prop where
  r : Blk W w.heap.size 26 #[.pointer (some ⟨br, 0, none⟩)]
  f : Blk W (w.heap.size + 1) 4 #[.bool false]
  c : Blk W C 25 #[.pointer (some ⟨b, 0, none⟩)]
  i : Blk W (C + 1) 3 #[.int .i64 n]
  B : Below w.heap.size w W
theorem isB_own {w : World} {C b br : Nat} {n : Int} {B : Nat} (hB : w.heap.size ≤ B) {X Y : World} {row : Option Nat} (hs : IsB w X C b br n) (hg : X.grownBy Y row) (hr : ∀ r, row = some r → B ≤ r ∧ ∃ o : Obj, X.heap[r]? = some o ∧ o.isCells = false) : IsB w Y C b br n :=
  ⟨blk_kept hs.r hg hr, blk_kept hs.f hg hr, blk_kept hs.c hg hr, blk_kept hs.i hg hr, own_blw hB hs.B (Nat.le_refl _) hg hr⟩
theorem IsB.drew {w W : World} {C b br : Nat} {n : Int} (h : IsB w W C b br n) : IsB w W.drew C b br n := ⟨h.r.drew, h.f.drew, h.c.drew, h.i.drew, h.B.drew⟩
theorem IsB.set {w W : World} {C b br : Nat} {n : Int} (h : IsB w W C b br n) (hC : w.heap.size + 2 ≤ C) (m : Int) : IsB w (W.setCell ⟨C + 1, 0, none⟩ (.int .i64 m)) C b br m :=
  ⟨h.r.far (p := ⟨C + 1, 0, none⟩) (by simp; omega) _, h.f.far (p := ⟨C + 1, 0, none⟩) (by simp; omega) _, h.c.far (p := ⟨C + 1, 0, none⟩) (by simp) _, h.i.set_ 0 _, h.B.setCell (p := ⟨C + 1, 0, none⟩) (by simp; omega) _⟩
theorem IsB.alloc {w W : World} {C b br : Nat} {n : Int} (h : IsB w W C b br n) (o : Obj) : IsB w (W.alloc o) C b br n := ⟨h.r.alloc _, h.f.alloc _, h.c.alloc _, h.i.alloc _, h.B.alloc h.B.size _⟩

/-- Between two of them. -/
def isI (w : World) (C b br : Nat) (pre : List Nat) (W : World) : Prop := IsB w W C b br (pre.length : Nat)
/-- A round was left: it was not the next one. -/
def isX (c : Code) (pre : List Nat) (_ : World) : Prop := c = .ret ∧ ∃ (p : List Nat) (x : Nat), pre = p ++ [x] ∧ x ≠ p.length

set_option maxRecDepth 100000 in
set_option maxHeartbeats 8000000 in
theorem is_in (w : World) (base b m br : Nat) (v : Value) (s : Cb) (hS : CbAt w b m s) (hR : RefAt w base br v s) :
    CallsIn Fence.wide 10 Try.prog 13 #[.pointer (some ⟨b, 0, none⟩), .pointer (some ⟨br, 0, none⟩)] w fun r w' => r = .returned (.bool true) ∧ Below w.heap.size w w' := by
  have hfn : ∀ (x : Fn) (y z : Array Value) (w : World), (binOp .eql 46 (.func x y z) .nilFunc).run Try.prog w = .ok (.bool false) w := fun _ _ _ _ => by kernel_rfl
  have ok := hS.ok
  have hb := hS.hb.choose_spec.1.lt
  have hbr := hR.hb.choose_spec.1.lt
  have h64 := ok.len64
  have hc64 := ok.c2
  obtain ⟨va, vc, rfl⟩ := own_form hR.hv
  have HS := Lib.hid hS
  have HR := Lib.hid hR
  have OK := Lib.hid ok
  have hN := next_at (((w.alloc (.cells #[.pointer (some ⟨br, 0, none⟩)] 26)).alloc (.cells #[.bool false] 4))) b m s (hS.below (((Below.refl _ w).alloc (Nat.le_refl _) _).alloc (by simp) _))
  obtain ⟨e1, e2, e3, e4, e5, e6, e7, e8, e9, et, hE⟩ := nextV_form s
  obtain ⟨ho, hot, hO⟩ := holdV_form s.who
  have hNr : ∀ W, Below w.heap.size w W → Calls Try.prog 30 #[.pointer (some ⟨br, 0, none⟩)] W fun r w' => r = .returned (nextV s) ∧ Below W.heap.size W w' := fun W hW => rNext_at W base br _ s ok (hR.below hW) h64
  have hHp : ∀ W, Below w.heap.size w W → Calls Try.prog 14 #[.pointer (some ⟨b, 0, none⟩)] W fun r w' => r = .returned (holdV s.who) ∧ W = w' := fun W hW => holder_at W b m s (hS.below hW)
  have hHr : ∀ W, Below w.heap.size w W → Calls Try.prog 31 #[.pointer (some ⟨br, 0, none⟩)] W fun r w' => r = .returned (holdV s.who) ∧ W = w' := fun W hW => rHolder_at W base br _ s (hR.below hW)
  rw [hE] at hN
  simp only [hE] at hNr
  simp only [hO] at hHp hHr
  have HN := Lib.hid hN
  have HNr := Lib.hid hNr
  have HHp := Lib.hid hHp
  have HHr := Lib.hid hHr
  clear hS hR hN hNr hHp hHr hE hO ok
  refine callsIn_of_wp_marks Try.func13 rfl trivial ?_ rfl
  simp only [Try.ntmps13, List.size_toArray, List.length_cons, List.length_nil, Nat.reduceAdd, Nat.reduceSub, Array.replicate_succ, Array.replicate_zero, List.push_toArray, List.append_toArray, List.nil_append, List.cons_append]
  gi_wp2_with (first
    | (gi_at_call 9; refine (callsIn_wide.2 HN.out).mono ?_; rintro r w1 ⟨rfl, B1⟩; have B01 : Below w.heap.size w w1 := (((Below.refl _ w).alloc (Nat.le_refl _) _).alloc (by simp) _).trans (B1.mono (by simp; omega)); have a1 : Blk w1 w.heap.size 26 #[.pointer (some ⟨br, 0, none⟩)] := ((Blk.new' _ _ rfl).alloc _).below B1 (by simp; omega); have a2 : Blk w1 (w.heap.size + 1) 4 #[.bool false] := (Blk.new' _ _ (by simp)).below B1 (by simp); have k0 : w1.cell? ⟨w.heap.size, 0, none⟩ = some (.pointer (some ⟨br, 0, none⟩)) := a1.cell 0; have l1 := a1.lt; have l2 := a2.lt; have A1 := Lib.hid a1; have A2 := Lib.hid a2; have HB01 := Lib.hid B01; clear a1 a2 B01 B1)
    | (gi_at_call 30; refine (callsIn_wide.2 (HNr.out _ (HB01.out.alloc HB01.out.size _))).mono ?_; rintro r w2 ⟨rfl, B2⟩; have B02 : Below w.heap.size w w2 := (HB01.out.alloc HB01.out.size _).trans (B2.mono (by have := HB01.out.size; simp; omega)); have a1 := (A1.out.alloc (.cells #[.int .i64 e1, .int .i64 e2, .int .i64 e3, .int .i64 e4, .int .i64 e5, .int .i64 e6, .int .i64 e7, .int .i64 e8, .int .i64 e9] 37)).below B2 (by simp; omega); have a2 := (A2.out.alloc (.cells #[.int .i64 e1, .int .i64 e2, .int .i64 e3, .int .i64 e4, .int .i64 e5, .int .i64 e6, .int .i64 e7, .int .i64 e8, .int .i64 e9] 37)).below B2 (by simp; omega); have a3 : Blk w2 w1.heap.size 37 #[.int .i64 e1, .int .i64 e2, .int .i64 e3, .int .i64 e4, .int .i64 e5, .int .i64 e6, .int .i64 e7, .int .i64 e8, .int .i64 e9] := (Blk.new' _ _ rfl).below B2 (by simp); have k02 : w2.cell? ⟨w.heap.size, 0, none⟩ = some (.pointer (some ⟨br, 0, none⟩)) := a1.cell 0; have l12 := a1.lt; have l22 := a2.lt; have l32 := a3.lt; have E0 := a3.cell 0; have E1 := a3.cell 1; have E2 := a3.cell 2; have E3 := a3.cell 3; have E4 := a3.cell 4; have E5 := a3.cell 5; have E6 := a3.cell 6; have E7 := a3.cell 7; have E8 := a3.cell 8; have A12 := Lib.hid a1; have A22 := Lib.hid a2; have HB02 := Lib.hid B02; clear a1 a2 a3 B02 B2)
    | (gi_at_call 14; refine (callsIn_wide.2 (HHp.out _ (HB02.out.alloc HB02.out.size _))).mono ?_; rintro r w' ⟨rfl, rfl⟩)
    | (gi_at_call 31; refine (callsIn_wide.2 (HHr.out _ (HB02.out.alloc HB02.out.size _))).mono ?_; rintro r w' ⟨rfl, rfl⟩)
    | (gi_at_call 11; refine (callsIn_wide.2 (slots_any _ _)).mono ?_; rintro r w' ⟨rfl, rfl⟩))
  obtain ⟨W1, hW1⟩ : ∃ W1, (((w2.alloc (.cells #[.int .i64 e1, .int .i64 e2, .int .i64 e3, .int .i64 e4, .int .i64 e5, .int .i64 e6, .int .i64 e7, .int .i64 e8, .int .i64 e9] 37)).alloc (.cells #[.pointer (some ⟨b, 0, none⟩)] 25)).alloc (.cells #[.int .i64 0] 3)) = W1 := ⟨_, rfl⟩
  have hsz2 := HB02.out.size
  have hsz1 : W1.heap.size = w2.heap.size + 3 := by rw [← hW1]; simp
  have B21 : Below w2.heap.size w2 W1 := by rw [← hW1]; exact (((Below.refl _ w2).alloc (Nat.le_refl _) _).alloc (by simp) _).alloc (by simp; omega) _
  have hI1 : IsB w W1 (w2.heap.size + 1) b br ((0 : Nat) : Int) :=
    ⟨A12.out.below B21 l12, A22.out.below B21 l22, by rw [← hW1]; exact (Blk.new' _ _ (by simp)).alloc _, by rw [← hW1]; exact Blk.new' _ _ (by simp), HB02.out.trans (B21.mono HB02.out.size)⟩
  rw [hW1]
  have hC : w.heap.size + 2 ≤ w2.heap.size + 1 := by omega
  obtain ⟨C, hCC⟩ : ∃ C, w2.heap.size + 1 = C := ⟨_, rfl⟩
  rw [hCC] at hC hI1
  have hsz1' : W1.heap.size = C + 2 := by omega
  simp only [hCC]
  clear hW1 B21 k0 k02 l1 l2 l12 l22 l32 E0 E1 E2 E3 E4 E5 E6 E7 E8 hsz1 hCC hsz2 HN HNr HHp HHr A12 A22 HB02 A1 A2 HB01
  refine rangeO (by omega) (gf := 29) (lb := #[.pointer (some ⟨C, 0, none⟩)]) rfl (enters_of Try.func29 (by kernel_rfl) rfl)
    (K := fun k => C + 1 ≤ k) (fun k hk => by omega) (slots1_stops 9 C b m s w W1 _ (fun k hk => by omega) hI1.B (by omega) hI1.c HS.out) (fun _ => rfl)
    (isI w C b br) isX
    (fun t A B row hs hg hr => isB_own (by omega) hs hg hr)
    (fun c t A B row hs _ _ => hs)
    hI1
    (fun T x a' W => ∃ Bx, C + 2 ≤ Bx ∧ Blk W Bx 49 (s.sl x).cells.toArray ∧ a' = { tmps := ((T.setIfInBounds 66 (s.sl x).val).setIfInBounds 15 (.pointer (some ⟨Bx, 0, none⟩))), defers := [] })
    (fun T x a' t A B row hs hg hr => by obtain ⟨Bx, h1, h2, h3⟩ := hs; exact ⟨Bx, h1, blk_kept h2 hg hr, h3⟩) ?assign ?body ?done ?stop
  case assign =>
    rintro l pre x W2 KK hz hI hK
    gi_wp2
    exact hK _ _ ((KeepsOthers.alloc W2 _).from _) ((Only.refl _ W2).alloc _) (IsB.alloc hI _) ⟨W2.heap.size, by omega, Blk.new _ _ _, rfl⟩
  case body =>
    rintro l pre x a' W2 hz hI ⟨Bx, hBx, bX, rfl⟩ hlt
    simp only [List.setIfInBounds_toArray, List.set_cons_zero, List.set_cons_succ]
    obtain ⟨k, hk⟩ : ∃ k, k = pre.length := ⟨_, rfl⟩
    have hII : IsB w W2 C b br (k : Nat) := by rw [hk]; exact hI
    rw [← hk] at hlt
    have HK := Lib.hid hk
    clear hI hk
    have hR2 := HR.out.below hII.B
    obtain ⟨q2, hbr2, _⟩ := hR2.hb
    have k0 : W2.cell? ⟨w.heap.size, 0, none⟩ = some (.pointer (some ⟨br, 0, none⟩)) := hII.r.cell 0
    have k1 : W2.cell? ⟨w.heap.size + 1, 0, none⟩ = some (.bool false) := hII.f.cell 0
    have k2 : W2.frozen? ⟨w.heap.size + 1, 0, none⟩ = false := hII.f.frozen 0
    have k3 : W2.cell? ⟨C + 1, 0, none⟩ = some (.int .i64 (k : Int)) := hII.i.cell 0
    have k4 : W2.frozen? ⟨C + 1, 0, none⟩ = false := hII.i.frozen 0
    have k5 : W2.cell? ⟨br, 3, none⟩ = some (.slice va s.l.length vc) := hbr2.cell 3
    obtain ⟨g, cap2, cur, hv, hg, hext, hfit⟩ := own_sl hR2.hv hlt
    injection hv with hv1 _ hv2
    subst hv1
    have hlk' : decide (s.l.length ≤ k) = false := by simpa using hlt
    have hk0 : (0 : Int) ≤ (k : Int) := Int.natCast_nonneg _
    have hk1 : (k : Int) < (s.l.length : Int) := by omega
    have r1 := hg.rowOf
    have r2 := hg.plain
    have r3 := bX.rowOf
    have r4 := bX.plain
    obtain ⟨y, hy⟩ : ∃ y, s.l[k] = y := ⟨_, rfl⟩
    obtain ⟨z, hzz⟩ : ∃ z, s.sl x = z := ⟨_, rfl⟩
    rw [hy] at hext
    rw [hzz] at r3
    have HY := Lib.hid hy
    have HZ := Lib.hid hzz
    have HII := Lib.hid hII
    rw [hzz]
    clear hII hy hzz hg bX hR2 hv2 hbr2
    by_cases hyz : y = z
    · subst hyz
      gi_wp2_with (first
        | (refine wpIn_region_stG (wide_round l _) 17 (by kernel_rfl) (by kernel_rfl) (by kernel_rfl) ?_
           simp only [List.take_succ_cons, List.take_zero, List.drop_succ_cons, List.drop_zero]
           repeat (first | (refine StG.skip rfl rfl ?_) | (refine StG.want rfl (fun K hK => ?_); go_simp; (try go_bits); refine hK _ ?_; clear hK K))
           refine StG.nil ?_))
      refine ⟨((KeepsOthers.setCell _ _ _).trans (KeepsOthers.drew _)).from _, ((Only.refl (fun k => C + 1 ≤ k) W2).setCell (p := ⟨C + 1, 0, none⟩) (.inl (Nat.le_refl _)) _).drew, ?_⟩
      have := (HII.out.set hC ((k : Int) + 1)).drew
      unfold isI
      rw [List.length_append, List.length_singleton, ← HK.out]
      exact this
    · have hne := neq49_ne y z hyz
      gi_wp2_with (first
        | (refine wpIn_region_stG (wide_round l _) 17 (by kernel_rfl) (by kernel_rfl) (by kernel_rfl) ?_
           simp only [List.take_succ_cons, List.take_zero, List.drop_succ_cons, List.drop_zero]
           repeat (first | (refine StG.skip rfl rfl ?_) | (refine StG.want rfl (fun K hK => ?_); go_simp; (try go_bits); refine hK _ ?_; clear hK K))
           refine StG.nil ?_))
      refine ⟨((KeepsOthers.setCell _ _ _).trans (KeepsOthers.drew _)).from _, rfl, pre, x, rfl, fun e => hyz ?_⟩
      rw [← HY.out, ← HZ.out]
      unfold Cb.sl
      have e' : x = k := by rw [e, HK.out]
      subst e'
      rw [List.getElem?_eq_getElem hlt]
      rfl
  case stop =>
    rintro D c pre W2 hD hz ⟨k, hk, rfl⟩ ⟨rfl, p, x, h1, h2⟩ hK
    exfalso
    have hl : (List.range k).length = p.length + 1 := by rw [h1]; simp
    rw [List.length_range] at hl
    subst hl
    rw [List.range_succ] at h1
    have := (List.append_inj' h1 rfl).2
    simp at this
    omega
  case done =>
    rintro D ys W2 hD hz rfl hI hK
    have hII : IsB w W2 C b br (s.l.length : Nat) := by
      have := hI
      unfold isI at this
      rwa [List.length_range] at this
    have hDl := (Array.getElem?_eq_some_iff.1 hK).1
    have HII := Lib.hid hII
    have HK := Lib.hid hK
    clear hI hI1 hK hII
    gi_wp2_with fail
    gi_loopw [16] (fun c wr => ∃ ci : Int, -1 ≤ ci ∧ ci ≤ s.cores + 1 ∧ c = .int .i64 ci ∧ W2 = wr) (fun c _ => (s.cores + 1 - intOf c).toNat)
    case atStart => exact ⟨-1, by omega, by omega, rfl, rfl⟩
    case round =>
      obtain ⟨ci, hc1, hc2, rfl, rfl⟩ := hrel
      have hR2 := HR.out.below HII.out.B
      obtain ⟨q2, hbr2, _⟩ := id hR2.hb
      have k0 : W2.cell? ⟨w.heap.size, 0, none⟩ = some (.pointer (some ⟨br, 0, none⟩)) := HII.out.r.cell 0
      have k2 : W2.cell? ⟨br, 2, none⟩ = some (.int .i64 (s.cores : Int)) := hbr2.cell 2
      have k5 : W2.cell? ⟨br, 3, none⟩ = some (.slice va s.l.length vc) := hbr2.cell 3
      by_cases hcl : ci ≤ s.cores
      · obtain ⟨ia, it, hix⟩ := indexV_form s.l ci
        have h1 := index_at W2 b m s ci (HS.out.below HII.out.B) (by omega) (by omega)
        have h2 := rIndex_at W2 base br _ s ci hR2 h64
        rw [hix] at h1 h2
        have H1 := Lib.hid h1
        have H2 := Lib.hid h2
        clear hR2 hbr2 hix h1 h2 k5
        gi_wp2_with (first
          | (gi_at_call 17; refine (callsIn_wide.2 H1.out).mono ?_; rintro r w' ⟨rfl, rfl⟩)
          | (gi_at_call 32; refine (callsIn_wide.2 H2.out).mono ?_; rintro r w' ⟨rfl, rfl⟩))
        go_roundw
        case rel => exact ⟨ci + 1, by omega, by omega, by go_num, trivial⟩
        case measure => simp [intOf]; omega
      · have hcl' : decide (ci ≤ (s.cores : Int)) = false := by simpa using hcl
        have k3 : W2.cell? ⟨C + 1, 0, none⟩ = some (.int .i64 (s.l.length : Int)) := HII.out.i.cell 0
        have k6 : W2.cell? ⟨w.heap.size + 1, 0, none⟩ = some (.bool false) := HII.out.f.cell 0
        have k7 : W2.frozen? ⟨w.heap.size + 1, 0, none⟩ = false := HII.out.f.frozen 0
        clear hR2 hbr2
        gi_wp2_with (first
          | (refine wpIn_region_stG (wide_wide _) 7 (by kernel_rfl) (by kernel_rfl) (by kernel_rfl) ?_
             simp only [List.take_succ_cons, List.take_zero, List.drop_succ_cons, List.drop_zero]
             repeat (first | (refine StG.skip rfl rfl ?_) | (refine StG.want rfl (fun K hK => ?_); go_simp; (try go_bits); refine hK _ ?_; clear hK K))
             refine StG.nil ?_))
        have hKO := (KeepsOthers.setCell W2 ⟨w.heap.size + 1, 0, none⟩ (.bool true)).trans (KeepsOthers.drew _)
        have v1 := hKO.same D _ HK.out rfl
        have hM : Marked ((W2.setCell ⟨w.heap.size + 1, 0, none⟩ (.bool true)).drew) w.heap.size [D] := (Marked.nil _ _).cons (by omega) v1 (fun _ h => by cases h)
        have B7 : Below w.heap.size w ((W2.setCell ⟨w.heap.size + 1, 0, none⟩ (.bool true)).drew) := (HII.out.B.setCell (p := ⟨w.heap.size + 1, 0, none⟩) (by simp) _).drew
        refine leaves_marks _ (by simp) _ [D] _ hM (fun w' hw' => ?_)
        exact ⟨_, results_cell1 rfl _ _ rfl (run_loadVar_one _ _ _ 4 4 _ _ _ ((HII.out.f.set_ 0 (.bool true)).drew.past hM hw') Try.underlying4 rfl rfl), rfl, below_past B7 hM hw' B7.size⟩
theorem is_st (w : World) (n0 base b m br : Nat) (s : Cb) (h : St w n0 base b m br s) :
    Calls Try.prog 13 #[.pointer (some ⟨b, 0, none⟩), .pointer (some ⟨br, 0, none⟩)] w fun r w' => r = .returned (.bool true) ∧ Below w.heap.size w w' := by
  obtain ⟨v, R⟩ := h.R
  exact callsIn_wide.1 (is_in w base b m br v s h.S R)
end Go.Proofs.Ytaibhhppdmncfaa
