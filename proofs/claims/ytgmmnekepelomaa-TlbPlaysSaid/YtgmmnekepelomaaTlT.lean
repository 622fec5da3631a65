/- Tlb: Is. -/
import Derived.Test.YtgmmnekepelomaaTlR
namespace Go.Proofs.Ytgmmnekepelomaa
open Go.RowKit Go.Shelf
attribute [local go_sem] Oper.semAt_some
attribute [local go_sem ↓] ld30 st30 bs38 ld32
attribute [local go_sem] run_ld30 run_st30 tr_ones tr_size tr_take tr_extract tr_put tr_put' tr_len run_bs38
attribute [local go_sem high] eql30 neq30

/-- What stands while Is goes on. -/
structure IsB (w W : World) (b br : Nat) (n : Int) : Prop where
  r : Blk W w.heap.size 24 #[.pointer (some ⟨br, 0, none⟩)]
  f : Blk W (w.heap.size + 1) 4 #[.bool false]
  c : Blk W (w.heap.size + 2) 23 #[.pointer (some ⟨b, 0, none⟩)]
  i : Blk W (w.heap.size + 3) 3 #[.int .i64 n]
  B : Below w.heap.size w W
theorem isB_own {w : World} {b br : Nat} {n : Int} {B : Nat} (hB : w.heap.size ≤ B) {X Y : World} {row : Option Nat} (hs : IsB w X b br n) (hg : X.grownBy Y row) (hr : ∀ r, row = some r → B ≤ r ∧ ∃ o : Obj, X.heap[r]? = some o ∧ o.isCells = false) : IsB w Y b br n :=
  ⟨blk_kept hs.r hg hr, blk_kept hs.f hg hr, blk_kept hs.c hg hr, blk_kept hs.i hg hr, own_blw hB hs.B (Nat.le_refl _) hg hr⟩
theorem IsB.drew {w W : World} {b br : Nat} {n : Int} (h : IsB w W b br n) : IsB w W.drew b br n := ⟨h.r.drew, h.f.drew, h.c.drew, h.i.drew, h.B.drew⟩
theorem IsB.set {w W : World} {b br : Nat} {n : Int} (h : IsB w W b br n) (m : Int) : IsB w (W.setCell ⟨w.heap.size + 3, 0, none⟩ (.int .i64 m)) b br m :=
  ⟨h.r.far (p := ⟨w.heap.size + 3, 0, none⟩) (by simp) _, h.f.far (p := ⟨w.heap.size + 3, 0, none⟩) (by simp) _, h.c.far (p := ⟨w.heap.size + 3, 0, none⟩) (by simp) _, h.i.set_ 0 _, h.B.setCell (p := ⟨w.heap.size + 3, 0, none⟩) (by simp) _⟩
theorem IsB.alloc {w W : World} {b br : Nat} {n : Int} (h : IsB w W b br n) (o : Obj) : IsB w (W.alloc o) b br n := ⟨h.r.alloc _, h.f.alloc _, h.c.alloc _, h.i.alloc _, h.B.alloc h.B.size _⟩

/-- Between two of them. -/
def isI (w : World) (b br : Nat) (pre : List Nat) (W : World) : Prop := IsB w W b br (pre.length : Nat)
/-- A round was left: it was not the next one. -/
def isX (c : Code) (pre : List Nat) (_ : World) : Prop := c = .ret ∧ ∃ (p : List Nat) (x : Nat), pre = p ++ [x] ∧ x ≠ p.length
theorem neq30_ne (x y : Tr) (h : x ≠ y) (w : World) : (binOp .neq 30 (.agg x.cells.toArray) (.agg y.cells.toArray)).run Try.prog w = .ok (.bool true) w := by
  obtain ⟨p, f, m, hh⟩ := x
  obtain ⟨p', f', m', hh'⟩ := y
  have h' : ¬ (p = p' ∧ f = f' ∧ m = m' ∧ hh = hh') := by simpa using h
  simp only [Tr.cells]
  go_simp
  intro e1 e2 e3 e4
  exact h' ⟨e1, e2, e3, e4⟩
/-- Before the second loop's first round. -/
def isJ (w : World) (b br n D : Nat) (pre : List Nat) (W : World) : Prop := pre = [] ∧ IsB w W b br (n : Nat) ∧ W.heap[D]? = some (.deferred (some []))
/-- Behind it. -/
def isY (w : World) (b br n D : Nat) (c : Code) (_ : List Nat) (W : World) : Prop := c = .exit 2 ∧ 1 ≤ n ∧ IsB w W b br ((n : Int) - 1) ∧ W.heap[D]? = some (.deferred (some []))

set_option maxRecDepth 100000 in
set_option maxHeartbeats 8000000 in
theorem is_in (w : World) (base b br : Nat) (v : Value) (s : Tl) (hS : TlAt w b s) (hR : RefAt w base br v s) :
    CallsIn Fence.wide 10 Try.prog 8 #[.pointer (some ⟨b, 0, none⟩), .pointer (some ⟨br, 0, none⟩)] w fun r w' => r = .returned (.bool true) ∧ Below w.heap.size w w' := by
  have hfn : ∀ (x : Fn) (y z : Array Value) (w : World), (binOp .eql 52 (.func x y z) .nilFunc).run Try.prog w = .ok (.bool false) w := fun _ _ _ _ => by kernel_rfl
  have hb := hS.lt
  have hbr := hR.hb.lt
  have h64 : s.l.length ≤ 64 := Nat.le_trans hS.ok.n hS.ok.s2
  obtain ⟨va, vc, rfl⟩ := own_form hR.hv
  have HS := Lib.hid hS
  have HR := Lib.hid hR
  obtain ⟨_, cs, at0, hc, _, _, _, e2, _⟩ := hS
  have HLn := Lib.hid (fun W (hW : Below w.heap.size w W) => len_blk W b s.l.length cs (hc.below hW hc.lt) e2)
  clear hR hc e2
  refine callsIn_of_wp_marks Try.func8 rfl trivial ?_ rfl
  simp only [Try.ntmps8, List.size_toArray, List.length_cons, List.length_nil, Nat.reduceAdd, Nat.reduceSub, Array.replicate_succ, Array.replicate_zero, List.push_toArray, List.append_toArray, List.nil_append, List.cons_append]
  gi_wp2_with (gi_at_call 19; refine (callsIn_wide.2 (all_any _ _)).mono ?_; rintro r w7 ⟨rfl, rfl⟩)
  obtain ⟨W0, hW0⟩ : ∃ W0, ((w.alloc (.cells #[.pointer (some ⟨br, 0, none⟩)] 24)).alloc (.cells #[.bool false] 4)).alloc (.cells #[.pointer (some ⟨b, 0, none⟩)] 23) = W0 := ⟨_, rfl⟩
  have hsz0 : W0.heap.size = w.heap.size + 3 := by rw [← hW0]; simp
  have B0 : Below w.heap.size w W0 := by rw [← hW0]; exact (((Below.refl _ w).alloc (Nat.le_refl _) _).alloc (by simp) _).alloc (by simp; omega) _
  have a1 : Blk W0 w.heap.size 24 #[.pointer (some ⟨br, 0, none⟩)] := by rw [← hW0]; exact ((Blk.new' _ _ (by simp)).alloc _).alloc _
  have a2 : Blk W0 (w.heap.size + 1) 4 #[.bool false] := by rw [← hW0]; exact (Blk.new' _ _ (by simp)).alloc _
  have a3 : Blk W0 (w.heap.size + 2) 23 #[.pointer (some ⟨b, 0, none⟩)] := by rw [← hW0]; exact Blk.new' _ _ (by simp)
  rw [hW0]
  have k0 : W0.cell? ⟨w.heap.size, 0, none⟩ = some (.pointer (some ⟨br, 0, none⟩)) := a1.cell 0
  have k1 : W0.cell? ⟨br, 1, none⟩ = some (.slice va s.l.length vc) := (HR.out.below B0).hb.cell 1
  have HB0 := Lib.hid B0
  clear hW0
  refine wpIn_region_stG (wide_wide 10) 11 (by kernel_rfl) (by kernel_rfl) (by kernel_rfl) ?_
  simp only [List.take_succ_cons, List.take_zero, List.drop_succ_cons, List.drop_zero]
  repeat (first
    | (refine StG.skip rfl rfl ?_)
    | (refine StG.want rfl (fun K hK => ?_); go_simp; (try go_bits); refine hK _ ?_; clear hK K)
    | (refine StG.want rfl (fun K hK => ?_); go_simp; refine ⟨_, (HLn.out _ HB0.out.drew).mono (fun _ _ h => ⟨h.1, h.2.symm⟩), hK _ ?_⟩; clear hK K))
  refine StG.nil ?_
  gi_wp2_with fail
  obtain ⟨W1, hW1⟩ : ∃ W1, (W0.alloc (.cells #[.int .i64 0] 3)).drew = W1 := ⟨_, rfl⟩
  have hsz1 : W1.heap.size = w.heap.size + 4 := by rw [← hW1]; simp; omega
  have hI1 : IsB w W1 b br ((0 : Nat) : Int) := by
    rw [← hW1]
    exact ⟨(a1.alloc _).drew, (a2.alloc _).drew, (a3.alloc _).drew, (Blk.new' _ _ (by omega)).drew, (B0.alloc (by omega) _).drew⟩
  rw [hW1]
  clear hW1 k0 k1 a1 a2 a3 B0
  refine rangeW (by omega) (gf := 31) (lb := #[.pointer (some ⟨w.heap.size + 1 + 1, 0, none⟩)]) rfl (enters_of Try.func31 (by kernel_rfl) rfl)
    (n₀ := w.heap.size + 3) (by omega) (all1_stops 9 (w.heap.size + 2) (w.heap.size + 3) b s w W1 (by omega) hI1.B (by omega) hI1.c HS.out) (fun _ => rfl)
    (isI w b br) isX
    (fun t A B row hs hg hr => isB_own (by omega) hs hg hr)
    (fun c t A B row hs _ _ => hs)
    hI1
    (fun T x a' W => ∃ Bx, w.heap.size + 4 ≤ Bx ∧ Blk W Bx 30 (s.tr x).cells.toArray ∧ a' = { tmps := ((T.setIfInBounds 23 (s.tr x).val).setIfInBounds 7 (.pointer (some ⟨Bx, 0, none⟩))), defers := [] })
    (fun T x a' t A B row hs hg hr => by obtain ⟨Bx, h1, h2, h3⟩ := hs; exact ⟨Bx, h1, blk_kept h2 hg hr, h3⟩) ?assign ?body ?done ?stop
  case assign =>
    rintro l pre x W2 K hz hI hK
    gi_wp2
    exact hK _ _ ((KeepsOthers.alloc W2 _).from _) ((Below.refl _ W2).alloc (by omega) _) (IsB.alloc hI _) ⟨W2.heap.size, by omega, Blk.new _ _ _, rfl⟩
  case body =>
    rintro l pre x a' W2 hz hI ⟨Bx, hBx, bX, rfl⟩ hlt
    simp only [List.setIfInBounds_toArray, List.set_cons_zero, List.set_cons_succ]
    obtain ⟨k, hk⟩ : ∃ k, k = pre.length := ⟨_, rfl⟩
    have hII : IsB w W2 b br (k : Nat) := by rw [hk]; exact hI
    rw [← hk] at hlt
    have HK := Lib.hid hk
    clear hI hk
    have hR2 := HR.out.below hII.B
    have k0 : W2.cell? ⟨w.heap.size, 0, none⟩ = some (.pointer (some ⟨br, 0, none⟩)) := hII.r.cell 0
    have k1 : W2.cell? ⟨w.heap.size + 1, 0, none⟩ = some (.bool false) := hII.f.cell 0
    have k2 : W2.frozen? ⟨w.heap.size + 1, 0, none⟩ = false := hII.f.frozen 0
    have k3 : W2.cell? ⟨w.heap.size + 3, 0, none⟩ = some (.int .i64 (k : Int)) := hII.i.cell 0
    have k4 : W2.frozen? ⟨w.heap.size + 3, 0, none⟩ = false := hII.i.frozen 0
    have k5 : W2.cell? ⟨br, 1, none⟩ = some (.slice va s.l.length vc) := hR2.hb.cell 1
    obtain ⟨g, cap2, cur, hv, hg, hext, hfit, hcell, hbg⟩ := own_row hR2.hv hlt
    injection hv with hv1 _ hv2
    subst hv1
    have hlk' : decide (s.l.length ≤ k) = false := by simpa using hlt
    have hk0 : (0 : Int) ≤ (k : Int) := Int.natCast_nonneg _
    have hk1 : (k : Int) < (s.l.length : Int) := by omega
    have r1 := hg.rowOf
    have r2 := hg.plain
    have r3 := bX.rowOf
    have r4 := bX.plain
    obtain ⟨y, hy⟩ : ∃ y, s.l[k] = y := ⟨_, rfl⟩
    obtain ⟨z, hzz⟩ : ∃ z, s.tr x = z := ⟨_, rfl⟩
    rw [hy] at hext
    rw [hzz] at r3
    have HY := Lib.hid hy
    have HZ := Lib.hid hzz
    have HII := Lib.hid hII
    rw [hzz]
    clear hII hy hzz hg bX hR2 hv2 hcell
    by_cases hyz : y = z
    · subst hyz
      gi_wp2_with (first
        | (refine wpIn_region_stG (wide_round l _) 17 (by kernel_rfl) (by kernel_rfl) (by kernel_rfl) ?_
           simp only [List.take_succ_cons, List.take_zero, List.drop_succ_cons, List.drop_zero]
           repeat (first | (refine StG.skip rfl rfl ?_) | (refine StG.want rfl (fun K hK => ?_); go_simp; (try go_bits); refine hK _ ?_; clear hK K))
           refine StG.nil ?_))
      refine ⟨((KeepsOthers.setCell _ _ _).trans (KeepsOthers.drew _)).from _, ((Below.refl (w.heap.size + 3) W2).setCell (p := ⟨w.heap.size + 3, 0, none⟩) (Nat.le_refl _) _).drew, ?_⟩
      have := (HII.out.set ((k : Int) + 1)).drew
      unfold isI
      rw [List.length_append, List.length_singleton, ← HK.out]
      exact this
    · have hne := neq30_ne y z hyz
      gi_wp2_with (first
        | (refine wpIn_region_stG (wide_round l _) 17 (by kernel_rfl) (by kernel_rfl) (by kernel_rfl) ?_
           simp only [List.take_succ_cons, List.take_zero, List.drop_succ_cons, List.drop_zero]
           repeat (first | (refine StG.skip rfl rfl ?_) | (refine StG.want rfl (fun K hK => ?_); go_simp; (try go_bits); refine hK _ ?_; clear hK K))
           refine StG.nil ?_))
      refine ⟨((KeepsOthers.setCell _ _ _).trans (KeepsOthers.drew _)).from _, rfl, pre, x, rfl, fun e => hyz ?_⟩
      rw [← HY.out, ← HZ.out]
      unfold Tl.tr
      have e' : x = k := by rw [e, HK.out]
      subst e'
      rw [List.getElem?_eq_getElem hlt]
      rfl
  case stop =>
    rintro D c pre W2 hD hz ⟨k, hk, rfl⟩ ⟨rfl, p, x, h1, h2⟩ hK
    exfalso
    have hl : (List.range k).length = p.length + 1 := by rw [h1]; simp
    rw [List.length_range] at hl
    subst hl
    rw [List.range_succ] at h1
    have := (List.append_inj' h1 rfl).2
    simp at this
    omega
  case done =>
    rintro D ys W2 hD hz rfl hI hK
    have hII : IsB w W2 b br (s.l.length : Nat) := by
      have := hI
      unfold isI at this
      rwa [List.length_range] at this
    have hDl := (Array.getElem?_eq_some_iff.1 hK).1
    clear hI
    gi_wp2_with fail
    refine rangeW (by omega) (gf := 31) (lb := #[.pointer (some ⟨w.heap.size + 1 + 1, 0, none⟩)]) rfl (enters_of Try.func31 (by kernel_rfl) rfl)
      (n₀ := w.heap.size + 3) (by omega) (all1_stops 9 (w.heap.size + 2) (w.heap.size + 3) b s w W2 (by omega) hII.B (by omega) hII.c HS.out) (fun _ => rfl)
      (isJ w b br s.l.length D) (isY w b br s.l.length D)
      (fun t A B row hs hg hr => ⟨hs.1, isB_own (by omega) hs.2.1 hg hr, (hg.block D (Array.getElem?_eq_some_iff.1 hs.2.2).1 (fun e => by have := (hr D e.symm).1; omega)).trans hs.2.2⟩)
      (fun c t A B row hs hg hr => ⟨hs.1, hs.2.1, isB_own (by omega) hs.2.2.1 hg hr, (hg.block D (Array.getElem?_eq_some_iff.1 hs.2.2.2).1 (fun e => by have := (hr D e.symm).1; omega)).trans hs.2.2.2⟩)
      ⟨rfl, hII, hK⟩
      (fun T x a' W => ∃ T' : Array Value, a' = { tmps := T', defers := [] } ∧ T' = T.setIfInBounds 45 (s.tr x).val)
      (fun T x a' t A B row hs hg hr => hs) ?assign ?body ?done ?stop
    case assign =>
      rintro l pre x W3 K hz3 hJ hK3
      gi_wp2
      exact hK3 _ _ ((KeepsOthers.refl W3).from _) (Below.refl _ W3) hJ ⟨_, rfl, rfl⟩
    case body =>
      rintro l pre x a' W3 hz3 ⟨rfl, hJ, hKJ⟩ ⟨T', rfl, rfl⟩ hlt
      simp only [List.setIfInBounds_toArray, List.set_cons_zero, List.set_cons_succ]
      have k3 : W3.cell? ⟨w.heap.size + 3, 0, none⟩ = some (.int .i64 (s.l.length : Int)) := hJ.i.cell 0
      have k4 : W3.frozen? ⟨w.heap.size + 3, 0, none⟩ = false := hJ.i.frozen 0
      have hpos : 1 ≤ s.l.length := hlt
      have HJ := Lib.hid hJ
      clear hJ
      gi_wp2_with fail
      have hk := KeepsOthers.setCell W3 ⟨w.heap.size + 3, 0, none⟩ (.int .i64 ((s.l.length : Int) - 1))
      exact ⟨hk.from _, rfl, hpos, HJ.out.set _, hk.same D _ hKJ rfl⟩
    case done =>
      rintro D2 ys W3 hD2 hz3 hys ⟨rfl, hJ, hKJ⟩ hK3
      have hl0 : s.l.length = 0 := by
        have := congrArg List.length hys
        simpa using this.symm
      have hR3 := HR.out.below hJ.B
      have k0 : W3.cell? ⟨w.heap.size, 0, none⟩ = some (.pointer (some ⟨br, 0, none⟩)) := hJ.r.cell 0
      have k1 : W3.cell? ⟨w.heap.size + 1, 0, none⟩ = some (.bool false) := hJ.f.cell 0
      have k2 : W3.frozen? ⟨w.heap.size + 1, 0, none⟩ = false := hJ.f.frozen 0
      have k3 : W3.cell? ⟨w.heap.size + 3, 0, none⟩ = some (.int .i64 (s.l.length : Int)) := hJ.i.cell 0
      have k5 : W3.cell? ⟨br, 1, none⟩ = some (.slice va s.l.length vc) := hR3.hb.cell 1
      rw [hl0] at k3 k5
      have HJ := Lib.hid hJ
      clear hR3 hJ hys hII hl0 hI1
      gi_wp2_with (first
        | (refine wpIn_region_stG (wide_wide _) 14 (by kernel_rfl) (by kernel_rfl) (by kernel_rfl) ?_
           simp only [List.take_succ_cons, List.take_zero, List.drop_succ_cons, List.drop_zero]
           repeat (first | (refine StG.skip rfl rfl ?_) | (refine StG.want rfl (fun K hK => ?_); go_simp; (try go_bits); refine hK _ ?_; clear hK K))
           refine StG.nil ?_))
      have hKO := (KeepsOthers.setCell W3 ⟨w.heap.size + 1, 0, none⟩ (.bool true)).trans (KeepsOthers.drew _)
      have v1 := hKO.same D _ hKJ rfl
      have v2 := hKO.same D2 _ hK3 rfl
      have hM : Marked ((W3.setCell ⟨w.heap.size + 1, 0, none⟩ (.bool true)).drew) w.heap.size [D2, D] :=
        ((Marked.nil _ _).cons (by omega) v1 (fun _ h => by cases h)).cons (by omega) v2 (fun E hE => by simp at hE; omega)
      have B7 : Below w.heap.size w ((W3.setCell ⟨w.heap.size + 1, 0, none⟩ (.bool true)).drew) := (HJ.out.B.setCell (p := ⟨w.heap.size + 1, 0, none⟩) (by simp) _).drew
      refine leaves_marks _ (by simp) _ [D2, D] _ hM (fun w' hw' => ?_)
      exact ⟨_, results_cell1 rfl _ _ rfl (run_loadVar_one _ _ _ 4 4 _ _ _ ((HJ.out.f.set_ 0 (.bool true)).drew.past hM hw') Try.underlying4 rfl rfl), rfl, below_past B7 hM hw' B7.size⟩
    case stop =>
      rintro D2 c pre W3 hD2 hz3 _ ⟨rfl, hpos, hJ, hKJ⟩ hK3
      have hR3 := HR.out.below hJ.B
      have k0 : W3.cell? ⟨w.heap.size, 0, none⟩ = some (.pointer (some ⟨br, 0, none⟩)) := hJ.r.cell 0
      have k1 : W3.cell? ⟨w.heap.size + 1, 0, none⟩ = some (.bool false) := hJ.f.cell 0
      have k2 : W3.frozen? ⟨w.heap.size + 1, 0, none⟩ = false := hJ.f.frozen 0
      have k3 : W3.cell? ⟨w.heap.size + 3, 0, none⟩ = some (.int .i64 ((s.l.length : Int) - 1)) := hJ.i.cell 0
      have k5 : W3.cell? ⟨br, 1, none⟩ = some (.slice va s.l.length vc) := hR3.hb.cell 1
      obtain ⟨n, hn⟩ : ∃ n, s.l.length = n + 1 := ⟨s.l.length - 1, by omega⟩
      rw [hn] at k3 k5 h64
      have hn1 : ((n + 1 : Nat) : Int) - 1 = (n : Int) := by omega
      rw [hn1] at k3
      have HJ := Lib.hid hJ
      clear hR3 hJ hII hI1 hn hn1 hpos
      gi_wp2_with (first
        | (refine wpIn_region_stG (wide_wide _) 14 (by kernel_rfl) (by kernel_rfl) (by kernel_rfl) ?_
           simp only [List.take_succ_cons, List.take_zero, List.drop_succ_cons, List.drop_zero]
           repeat (first | (refine StG.skip rfl rfl ?_) | (refine StG.want rfl (fun K hK => ?_); go_simp; (try go_bits); refine hK _ ?_; clear hK K))
           refine StG.nil ?_))
      have hKO := (KeepsOthers.setCell W3 ⟨w.heap.size + 1, 0, none⟩ (.bool true)).trans (KeepsOthers.drew _)
      have v1 := hKO.same D _ hKJ rfl
      have v2 := hKO.same D2 _ hK3 rfl
      have hM : Marked ((W3.setCell ⟨w.heap.size + 1, 0, none⟩ (.bool true)).drew) w.heap.size [D2, D] :=
        ((Marked.nil _ _).cons (by omega) v1 (fun _ h => by cases h)).cons (by omega) v2 (fun E hE => by simp at hE; omega)
      have B7 : Below w.heap.size w ((W3.setCell ⟨w.heap.size + 1, 0, none⟩ (.bool true)).drew) := (HJ.out.B.setCell (p := ⟨w.heap.size + 1, 0, none⟩) (by simp) _).drew
      refine leaves_marks _ (by simp) _ [D2, D] _ hM (fun w' hw' => ?_)
      exact ⟨_, results_cell1 rfl _ _ rfl (run_loadVar_one _ _ _ 4 4 _ _ _ ((HJ.out.f.set_ 0 (.bool true)).drew.past hM hw') Try.underlying4 rfl rfl), rfl, below_past B7 hM hw' B7.size⟩
end Go.Proofs.Ytgmmnekepelomaa
