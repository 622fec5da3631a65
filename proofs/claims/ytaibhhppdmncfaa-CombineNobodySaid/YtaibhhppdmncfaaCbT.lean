/- Combine: the law Once, walked. -/
import Derived.Test.YtaibhhppdmncfaaCbS
namespace Go.Proofs.Ytaibhhppdmncfaa
open Go.RowKit Go.Maps Go.Shelf
attribute [local go_sem] Oper.semAt_some

attribute [local go_sem ↓] ld35
theorem ld35_blk (w : World) (g : Nat) (cs : Array Value) (hg : Blk w g 35 cs) (hs : cs.size = 11) : (ldAgg 35 (.pointer (some ⟨g, 0, none⟩))).run Try.prog w = .ok (.agg cs) w := by
  have := run_loadAt_row (P := Try.prog) w g 0 11 35 _ Try.underlying35 rfl (by kernel_rfl) hg.plain (by rw [hg.rowOf]; omega)
  rw [hg.rowOf] at this
  have e : cs.extract 0 (0 + 11) = cs := by rw [Nat.zero_add, ← hs, Array.extract_size]
  rw [e] at this
  exact this

/-- Between two slots, at the end. -/
def oI (wr : World) (t : Cb) (pre : List Nat) (W : World) : Prop := Blk W wr.heap.size 3 #[.int .i64 (cntOf t pre : Nat)] ∧ Below wr.heap.size wr W
theorem once_no (w : World) (x : Giv) (A : Option Addr) (len cap : Nat) (h : ¬ x.can) :
    Calls Try.prog 3 #[x.val, .slice A len cap] w fun r w' => r = .returned (.bool true) ∧ Below w.heap.size w w' := by
  have H := Lib.hid h; clear h
  have HM := Lib.hid (fun W => made_no W x none 0 0 H.out)
  obtain ⟨a, b, c⟩ := x
  simp only [Giv.val, Giv.cells] at HM ⊢
  go_enter Try.func3, Try.ntmps3
  go_wp2_with (first
    | (go_at_call 7; refine (HM.out _).mono ?_; rintro r w1 ⟨rfl, B1⟩)
    | (go_at_call 8; refine (awake_any _).mono ?_; rintro r w2 ⟨rfl, B2⟩))
  go_ret
  exact ⟨rfl, ((Below.refl _ w).alloc (Nat.le_refl _) _).trans ((B1.trans (B2.mono B1.size)).mono (by simp))⟩

set_option maxRecDepth 100000 in
set_option maxHeartbeats 8000000 in
theorem once_in (w : World) (x : Giv) (A : Option Addr) (cap : Nat) (l : List CAct) (h : x.can) (ha : ActsAt w A l) :
    CallsIn Fence.wide 12 Try.prog 3 #[x.val, .slice A l.length cap] w fun r w' => r = .returned (.bool true) ∧ Below w.heap.size w w' := by
  have hl : l.length ≤ 4398046510976 := by have := ha.1; omega
  have HA := Lib.hid ha; clear ha
  have H := Lib.hid h; clear h
  have HM := Lib.hid (fun W => made_yes W x none 0 [] H.out (acts_nil W _))
  have hok := Giv.made_ok H.out
  have hun : untold x.made.l = 0 := rfl
  have hbat : x.made.batch = [] := rfl
  obtain ⟨s, hs⟩ : ∃ s, x.made = s := ⟨_, rfl⟩
  rw [hs] at HM hok hun hbat
  have HOK := Lib.hid hok
  clear hs hok
  obtain ⟨a, b0, c⟩ := x
  simp only [Giv.val, Giv.cells, List.length_nil] at HM ⊢
  have HUN := Lib.hid hun
  have HBAT := Lib.hid hbat
  clear hun hbat
  refine callsIn_of_wp_marks Try.func3 rfl trivial ?_ rfl
  simp only [Try.ntmps3, List.size_toArray, List.length_cons, List.length_nil, Nat.reduceAdd, Nat.reduceSub, Array.replicate_succ, Array.replicate_zero, List.push_toArray, List.append_toArray, List.nil_append, List.cons_append]
  gi_wp2_with (gi_at_call 7; refine (callsIn_wide.2 (HM.out _)).mono ?_; rintro r w1 ⟨b, m, br, base, rfl, S1, B1⟩)
  have hB1 : Below w.heap.size w w1 := ((Below.refl _ w).alloc (Nat.le_refl _) _).trans (B1.mono (by simp))
  obtain ⟨n0, hn0⟩ : ∃ n0, (w.alloc (.cells #[.int .i64 a, .int .i64 b0, .int .i64 c] 23)).heap.size = n0 := ⟨_, rfl⟩
  rw [hn0] at S1 B1
  have hn : w.heap.size ≤ n0 := by rw [← hn0]; simp
  clear hn0 B1 HM
  gi_loopw [9, 10, 11] (fun lf la i wr => ∃ (k : Nat) (last : Int), k ≤ l.length ∧ i = .int .i64 k ∧ lf = .int .i64 (untold (s.run (l.take k)).l : Nat) ∧ la = .int .i64 last ∧ (∀ j ∈ (s.run (l.take k)).batch, last < (j : Int)) ∧ St wr n0 base b m br (s.run (l.take k)) ∧ Below w.heap.size w wr)
    (fun _ _ i _ => l.length - (intOf i).toNat)
  case atStart => exact ⟨0, -1, Nat.zero_le _, rfl, by rw [show s.run (l.take 0) = s from rfl, HUN.out]; rfl, rfl, (fun j hj => by rw [show s.run (l.take 0) = s from rfl, HBAT.out] at hj; cases hj), S1, hB1⟩
  case round =>
    obtain ⟨k, last, hk, rfl, rfl, rfl, hlast, hS, hB⟩ := hrel
    clear S1 hB1
    by_cases hlt : k < l.length
    · obtain ⟨bb, off, rfl, hload⟩ := HA.out.load hB (i := k) (List.getElem?_eq_getElem hlt)
      have hfit := HA.out.2.1 l[k] (List.getElem_mem hlt)
      have hsn : s.run (l.take (k + 1)) = (s.run (l.take k)).step l[k] := by rw [snoc_take l k hlt, run_snoc]
      obtain ⟨t, ht⟩ : ∃ t, s.run (l.take k) = t := ⟨_, rfl⟩
      obtain ⟨y, hy⟩ : ∃ y, l[k] = y := ⟨_, rfl⟩
      rw [ht] at hS hlast
      simp only [ht]
      rw [ht, hy] at hsn
      rw [hy] at hfit
      have okT := hS.S.ok
      have ok2 := Cb.step_ok okT y
      have hL2 := ok2.len64
      have hL1 := okT.len64
      have hU1 := untold_le t.l
      have hU2 := untold_le (t.step y).l
      have HPLAY := Lib.hid (fun W (hW : Below wr.heap.size wr W) => play_st W n0 base b m br t y (hS.below hW) hfit)
      have hnx : ∀ W, Below wr.heap.size wr W → Calls Try.prog 9 #[.pointer (some ⟨b, 0, none⟩)] W fun r w' => r = .returned (nextV t) ∧ Below W.heap.size W w' := fun W hW => next_at W b m t (hS.S.below hW)
      obtain ⟨e1, e2, e3, e4, e5, e6, e7, e8, e9, hE, hE9⟩ := nextV_form2 t
      simp only [hE] at hnx
      have HNEXT := Lib.hid hnx
      have HE := Lib.hid hE
      obtain ⟨v0, R0⟩ := hS.R
      obtain ⟨va, vc, rfl⟩ := own_form R0.hv
      have HR0 := Lib.hid R0
      have HSN := Lib.hid hsn
      have HLAST := Lib.hid hlast
      have HS := Lib.hid hS
      have HB := Lib.hid hB
      have OKT := Lib.hid okT
      have HE9 := Lib.hid hE9
      have hld : (ldAgg 35 (.pointer (some ⟨bb, off + k * 11, none⟩))).run Try.prog wr = .ok y.val wr := by rw [← hy]; exact hload 0
      have hres : ∀ (last' : Int) (w3 : World), (∀ j ∈ (t.step y).batch, last' < (j : Int)) → St w3 n0 base b m br (t.step y) → Below n0 wr w3 → ∃ (k' : Nat) (last : Int), k' ≤ l.length ∧ Value.int .i64 ((k : Int) + 1) = .int .i64 k' ∧ Value.int .i64 (untold (t.step y).l : Nat) = .int .i64 (untold (s.run (l.take k')).l : Nat) ∧ Value.int .i64 last' = .int .i64 last ∧ (∀ j ∈ (s.run (l.take k')).batch, last < (j : Int)) ∧ St w3 n0 base b m br (s.run (l.take k')) ∧ Below w.heap.size w w3 :=
        fun last' w3 h1 h2 h3 => ⟨k + 1, last', by omega, by go_num, by rw [HSN.out], rfl, by rw [HSN.out]; exact h1, by rw [HSN.out]; exact h2, HB.out.trans (h3.mono hn)⟩
      have HRES := Lib.hid hres
      obtain ⟨th, hth⟩ : ∃ th, (!t.batch.isEmpty) = th := ⟨_, rfl⟩
      have HTH := Lib.hid hth
      rw [hth] at HNEXT HE
      obtain ⟨U, hU⟩ : ∃ U, untold t.l = U := ⟨_, rfl⟩
      obtain ⟨L, hL⟩ : ∃ L, t.l.length = L := ⟨_, rfl⟩
      have HU := Lib.hid hU
      have HL := Lib.hid hL
      rw [hU, hL] at hU1
      rw [hL] at hL1
      rw [hU]
      obtain ⟨s2, hs2⟩ : ∃ s2, t.step y = s2 := ⟨_, rfl⟩
      have HS2 := Lib.hid hs2
      rw [hs2] at hL2 hU2 HPLAY HRES
      obtain ⟨U2, hU2'⟩ : ∃ U2, untold s2.l = U2 := ⟨_, rfl⟩
      obtain ⟨L2, hL2'⟩ : ∃ L2, s2.l.length = L2 := ⟨_, rfl⟩
      have HU2 := Lib.hid hU2'
      have HL2 := Lib.hid hL2'
      rw [hU2', hL2'] at hU2
      rw [hL2'] at hL2
      rw [hU2'] at HRES
      clear hload hfit hsn ht okT ok2 hnx hE R0 hlast hS hB hE9 hres hth hU hL hs2 hU2' hL2'
      obtain ⟨d, co, ⟨k1, k2, k3, k4, k5, k6, k7, k8⟩, ix⟩ := y
      simp only [CAct.val, CAct.cells] at HPLAY hld
      have hcase : d = 0 ∨ (d = 1 ∧ t.canElect co = true) ∨ (d = 1 ∧ t.canElect co = false) ∨ (d = 2 ∧ t.batch = []) ∨ (d = 2 ∧ t.batch ≠ [] ∧ ix < 0) ∨ (d = 2 ∧ t.batch ≠ [] ∧ 0 ≤ ix) ∨ (d ≠ 0 ∧ d ≠ 1 ∧ d ≠ 2) := by
        by_cases h0 : d = 0
        · exact .inl h0
        · by_cases h1 : d = 1
          · cases hc : t.canElect co
            · exact .inr (.inr (.inl ⟨h1, rfl⟩))
            · exact .inr (.inl ⟨h1, rfl⟩)
          · by_cases h2 : d = 2
            · by_cases hb : t.batch = []
              · exact .inr (.inr (.inr (.inl ⟨h2, hb⟩)))
              · by_cases hi : ix < 0
                · exact .inr (.inr (.inr (.inr (.inl ⟨h2, hb, hi⟩))))
                · exact .inr (.inr (.inr (.inr (.inr (.inl ⟨h2, hb, by omega⟩)))))
            · exact .inr (.inr (.inr (.inr (.inr (.inr ⟨h0, h1, h2⟩)))))
      rcases hcase with h0 | ⟨h0, hc⟩ | ⟨h0, hc⟩ | ⟨h0, hb0⟩ | ⟨h0, hb0, hix⟩ | ⟨h0, hb0, hix⟩ | ⟨h0, h1, h2⟩
      · subst h0
        have hnwr : n0 ≤ wr.heap.size := Nat.le_trans HS.out.n0z HS.out.hz
        have hst : s2 = t.post co ⟨k1, k2, k3, k4, k5, k6, k7, k8⟩ := by rw [← HS2.out]; rfl
        have hu := post_untold t co ⟨k1, k2, k3, k4, k5, k6, k7, k8⟩
        rw [← hst, HU.out, HL.out, HU2.out, HL2.out] at hu
        have HUU := Lib.hid hu
        have HLL := Lib.hid (show ∀ j ∈ s2.batch, last < (j : Int) by rw [hst, post_batch]; exact HLAST.out)
        have hb1 : (0 : Int) ≤ (U : Int) + L2 - L := by omega
        have hb2 : (U : Int) + L2 - L ≤ 64 := by omega
        clear hst hu
        gi_wp2_with (first
          | (gi_at_call 9; refine (callsIn_wide.2 (HNEXT.out _ ((Below.refl _ wr).alloc (Nat.le_refl _) _))).mono ?_; rintro r w1 ⟨rfl, B1⟩; have B01 : Below wr.heap.size wr w1 := ((Below.refl _ wr).alloc (Nat.le_refl _) _).trans (B1.mono (by simp)); have X1 : Blk w1 wr.heap.size 35 #[.int .i64 0, .int .i64 co, .int .i64 k1, .int .i64 k2, .int .i64 k3, .int .i64 k4, .int .i64 k5, .int .i64 k6, .int .i64 k7, .int .i64 k8, .int .i64 ix] := (Blk.new wr 35 _).below B1 (by simp); have xf0 := X1.cell 0; have xf1 := X1.cell 1; have xf2 := X1.cell 2; have xf3 := X1.cell 3; have xf4 := X1.cell 4; have xf5 := X1.cell 5; have xf6 := X1.cell 6; have xf7 := X1.cell 7; have xf8 := X1.cell 8; have xf9 := X1.cell 9; have xf10 := X1.cell 10; have lx := X1.lt; have R1 := (HR0.out.below B01).hb.choose_spec.1; have y1 : w1.cell? ⟨br, 3, none⟩ = some (.slice va L vc) := (by rw [← HL.out]; exact R1.cell 3); have lr := R1.lt; have hldX := ld35_blk _ wr.heap.size #[.int .i64 0, .int .i64 co, .int .i64 k1, .int .i64 k2, .int .i64 k3, .int .i64 k4, .int .i64 k5, .int .i64 k6, .int .i64 k7, .int .i64 k8, .int .i64 ix] (X1.alloc (.cells #[.int .i64 e1, .int .i64 e2, .int .i64 e3, .int .i64 e4, .int .i64 e5, .int .i64 e6, .int .i64 e7, .int .i64 e8, .int .i64 e9] 37)) rfl; have HB01 := Lib.hid B01; have HX1 := Lib.hid X1; clear B01 B1 X1 R1)
          | (gi_at_call 10; refine (callsIn_wide.2 (HPLAY.out _ (HB01.out.alloc HB01.out.size _))).mono ?_; rintro r w3 ⟨rfl, hS3, hB3, hF3⟩; have X3 : Blk w3 wr.heap.size 35 #[.int .i64 0, .int .i64 co, .int .i64 k1, .int .i64 k2, .int .i64 k3, .int .i64 k4, .int .i64 k5, .int .i64 k6, .int .i64 k7, .int .i64 k8, .int .i64 ix] := hF3.keep _ _ _ (HX1.out.alloc _) (by decide) (by decide) (by decide); have Y3 : Blk w3 w1.heap.size 37 #[.int .i64 e1, .int .i64 e2, .int .i64 e3, .int .i64 e4, .int .i64 e5, .int .i64 e6, .int .i64 e7, .int .i64 e8, .int .i64 e9] := hF3.keep _ _ _ (Blk.new w1 37 _) (by decide) (by decide) (by decide); have z0 := X3.cell 0; have z10 := X3.cell 10; have zy := Y3.cell 8; have lx3 := X3.lt; have ly3 := Y3.lt; obtain ⟨v3, R3⟩ := hS3.R; obtain ⟨va3, vc3, rfl⟩ := own_form R3.hv; obtain ⟨q3, R3c, _⟩ := R3.hb; have y3 : w3.cell? ⟨br, 3, none⟩ = some (.slice va3 L2 vc3) := (by rw [← HL2.out]; exact R3c.cell 3); have lr3 := R3c.lt; have HS3 := Lib.hid hS3; have HB3 := Lib.hid hB3; clear hS3 hB3 hF3 X3 Y3 R3 R3c))
        go_roundw
        case rel =>
          have hB4 : Below n0 wr w3 := ((HB01.out.alloc HB01.out.size _).mono hnwr).trans HB3.out
          have := HRES.out last _ HLL.out HS3.out hB4
          rw [HUU.out] at this
          exact this
        case measure => simp [intOf]; omega
      · subst h0
        have hnwr : n0 ≤ wr.heap.size := Nat.le_trans HS.out.n0z HS.out.hz
        have hst : s2 = t.elect co := by rw [← HS2.out]; rfl
        have hu : U2 = U := by rw [← HU2.out, ← HU.out, hst, elect_untold]
        have hey := elect_yes OKT.out hc
        rw [← hst] at hey
        have ht0 : th = false := by rw [← HTH.out, hey.1]; rfl
        have ht2 : (!s2.batch.isEmpty) = true := by
          cases hb2 : s2.batch with
          | nil => exact absurd hb2 hey.2
          | cons _ _ => rfl
        obtain ⟨f1, f2, f3, f4, f5, f6, f7, f8, f9, hE2, _⟩ := nextV_form2 s2
        rw [ht2] at hE2
        have HE2 := Lib.hid hE2
        have HLL := Lib.hid (show ∀ j ∈ s2.batch, (-1 : Int) < (j : Int) from fun j _ => by omega)
        subst ht0
        subst hu
        clear hst hey ht2 hE2 hc
        gi_wp2_with (first
          | (gi_at_call 9; refine (callsIn_wide.2 (HNEXT.out _ ((Below.refl _ wr).alloc (Nat.le_refl _) _))).mono ?_; rintro r w1 ⟨rfl, B1⟩; have B01 : Below wr.heap.size wr w1 := ((Below.refl _ wr).alloc (Nat.le_refl _) _).trans (B1.mono (by simp)); have X1 : Blk w1 wr.heap.size 35 #[.int .i64 1, .int .i64 co, .int .i64 k1, .int .i64 k2, .int .i64 k3, .int .i64 k4, .int .i64 k5, .int .i64 k6, .int .i64 k7, .int .i64 k8, .int .i64 ix] := (Blk.new wr 35 _).below B1 (by simp); have xf0 := X1.cell 0; have xf1 := X1.cell 1; have xf2 := X1.cell 2; have xf3 := X1.cell 3; have xf4 := X1.cell 4; have xf5 := X1.cell 5; have xf6 := X1.cell 6; have xf7 := X1.cell 7; have xf8 := X1.cell 8; have xf9 := X1.cell 9; have xf10 := X1.cell 10; have lx := X1.lt; have R1 := (HR0.out.below B01).hb.choose_spec.1; have y1 : w1.cell? ⟨br, 3, none⟩ = some (.slice va L vc) := (by rw [← HL.out]; exact R1.cell 3); have lr := R1.lt; have hldX := ld35_blk _ wr.heap.size #[.int .i64 1, .int .i64 co, .int .i64 k1, .int .i64 k2, .int .i64 k3, .int .i64 k4, .int .i64 k5, .int .i64 k6, .int .i64 k7, .int .i64 k8, .int .i64 ix] (X1.alloc (.cells #[.int .i64 e1, .int .i64 e2, .int .i64 e3, .int .i64 e4, .int .i64 e5, .int .i64 e6, .int .i64 e7, .int .i64 e8, .int .i64 e9] 37)) rfl; have HB01 := Lib.hid B01; have HX1 := Lib.hid X1; clear B01 B1 X1 R1)
          | (gi_at_call 10; refine (callsIn_wide.2 (HPLAY.out _ (HB01.out.alloc HB01.out.size _))).mono ?_; rintro r w3 ⟨rfl, hS3, hB3, hF3⟩; have X3 : Blk w3 wr.heap.size 35 #[.int .i64 1, .int .i64 co, .int .i64 k1, .int .i64 k2, .int .i64 k3, .int .i64 k4, .int .i64 k5, .int .i64 k6, .int .i64 k7, .int .i64 k8, .int .i64 ix] := hF3.keep _ _ _ (HX1.out.alloc _) (by decide) (by decide) (by decide); have Y3 : Blk w3 w1.heap.size 37 #[.int .i64 e1, .int .i64 e2, .int .i64 e3, .int .i64 e4, .int .i64 e5, .int .i64 e6, .int .i64 e7, .int .i64 e8, .int .i64 e9] := hF3.keep _ _ _ (Blk.new w1 37 _) (by decide) (by decide) (by decide); have z0 := X3.cell 0; have z10 := X3.cell 10; have zy := Y3.cell 8; have lx3 := X3.lt; have ly3 := Y3.lt; obtain ⟨v3, R3⟩ := hS3.R; obtain ⟨va3, vc3, rfl⟩ := own_form R3.hv; obtain ⟨q3, R3c, _⟩ := R3.hb; have y3 : w3.cell? ⟨br, 3, none⟩ = some (.slice va3 L2 vc3) := (by rw [← HL2.out]; exact R3c.cell 3); have lr3 := R3c.lt; have X3k := Lib.hid X3; have HS3 := Lib.hid hS3; have HB3 := Lib.hid hB3; clear hS3 hB3 hF3 X3 Y3 R3 R3c)
          | (gi_at_call 9; refine (callsIn_wide.2 (next_at w3 b m s2 HS3.out.S)).mono ?_; rw [HE2.out]; rintro r w5 ⟨rfl, B5⟩; have hz5 := B5.size; have X5 := (X3k.out).below B5 (by omega); have u0 := X5.cell 0; have lx5 := X5.lt; have HB5 := Lib.hid B5; clear B5 X5))
        go_roundw
        case rel =>
          have hB4 : Below n0 wr w3 := ((HB01.out.alloc HB01.out.size _).mono hnwr).trans HB3.out
          have B6 : ∀ o, Below w3.heap.size w3 (w5.alloc o) := fun o => HB5.out.alloc HB5.out.size o
          exact HRES.out (-1) _ HLL.out (HS3.out.below (B6 _)) (hB4.trans ((B6 _).mono (Nat.le_trans hnwr hB4.size)))
        case measure => simp [intOf]; omega
      · subst h0
        have hnwr : n0 ≤ wr.heap.size := Nat.le_trans HS.out.n0z HS.out.hz
        have hst : s2 = t := by rw [← HS2.out]; exact elect_no hc
        have hu : U2 = U := by rw [← HU2.out, ← HU.out, hst]
        have hE2 := HE.out
        rw [← hst] at hE2
        have HE2 := Lib.hid hE2
        have HLL := Lib.hid (show ∀ j ∈ s2.batch, last < (j : Int) by rw [hst]; exact HLAST.out)
        subst hu
        clear hst hE2 hc
        cases th
        all_goals
          gi_wp2_with (first
            | (gi_at_call 9; refine (callsIn_wide.2 (HNEXT.out _ ((Below.refl _ wr).alloc (Nat.le_refl _) _))).mono ?_; rintro r w1 ⟨rfl, B1⟩; have B01 : Below wr.heap.size wr w1 := ((Below.refl _ wr).alloc (Nat.le_refl _) _).trans (B1.mono (by simp)); have X1 : Blk w1 wr.heap.size 35 #[.int .i64 1, .int .i64 co, .int .i64 k1, .int .i64 k2, .int .i64 k3, .int .i64 k4, .int .i64 k5, .int .i64 k6, .int .i64 k7, .int .i64 k8, .int .i64 ix] := (Blk.new wr 35 _).below B1 (by simp); have xf0 := X1.cell 0; have xf1 := X1.cell 1; have xf2 := X1.cell 2; have xf3 := X1.cell 3; have xf4 := X1.cell 4; have xf5 := X1.cell 5; have xf6 := X1.cell 6; have xf7 := X1.cell 7; have xf8 := X1.cell 8; have xf9 := X1.cell 9; have xf10 := X1.cell 10; have lx := X1.lt; have R1 := (HR0.out.below B01).hb.choose_spec.1; have y1 : w1.cell? ⟨br, 3, none⟩ = some (.slice va L vc) := (by rw [← HL.out]; exact R1.cell 3); have lr := R1.lt; have hldX := ld35_blk _ wr.heap.size #[.int .i64 1, .int .i64 co, .int .i64 k1, .int .i64 k2, .int .i64 k3, .int .i64 k4, .int .i64 k5, .int .i64 k6, .int .i64 k7, .int .i64 k8, .int .i64 ix] (X1.alloc (.cells #[.int .i64 e1, .int .i64 e2, .int .i64 e3, .int .i64 e4, .int .i64 e5, .int .i64 e6, .int .i64 e7, .int .i64 e8, .int .i64 e9] 37)) rfl; have HB01 := Lib.hid B01; have HX1 := Lib.hid X1; clear B01 B1 X1 R1)
            | (gi_at_call 10; refine (callsIn_wide.2 (HPLAY.out _ (HB01.out.alloc HB01.out.size _))).mono ?_; rintro r w3 ⟨rfl, hS3, hB3, hF3⟩; have X3 : Blk w3 wr.heap.size 35 #[.int .i64 1, .int .i64 co, .int .i64 k1, .int .i64 k2, .int .i64 k3, .int .i64 k4, .int .i64 k5, .int .i64 k6, .int .i64 k7, .int .i64 k8, .int .i64 ix] := hF3.keep _ _ _ (HX1.out.alloc _) (by decide) (by decide) (by decide); have Y3 : Blk w3 w1.heap.size 37 #[.int .i64 e1, .int .i64 e2, .int .i64 e3, .int .i64 e4, .int .i64 e5, .int .i64 e6, .int .i64 e7, .int .i64 e8, .int .i64 e9] := hF3.keep _ _ _ (Blk.new w1 37 _) (by decide) (by decide) (by decide); have z0 := X3.cell 0; have z10 := X3.cell 10; have zy := Y3.cell 8; have lx3 := X3.lt; have ly3 := Y3.lt; obtain ⟨v3, R3⟩ := hS3.R; obtain ⟨va3, vc3, rfl⟩ := own_form R3.hv; obtain ⟨q3, R3c, _⟩ := R3.hb; have y3 : w3.cell? ⟨br, 3, none⟩ = some (.slice va3 L2 vc3) := (by rw [← HL2.out]; exact R3c.cell 3); have lr3 := R3c.lt; have X3k := Lib.hid X3; have HS3 := Lib.hid hS3; have HB3 := Lib.hid hB3; clear hS3 hB3 hF3 X3 Y3 R3 R3c)
            | (gi_at_call 9; refine (callsIn_wide.2 (next_at w3 b m s2 HS3.out.S)).mono ?_; rw [HE2.out]; rintro r w5 ⟨rfl, B5⟩; have hz5 := B5.size; have X5 := (X3k.out).below B5 (by omega); have u0 := X5.cell 0; have lx5 := X5.lt; have HB5 := Lib.hid B5; clear B5 X5))
          go_roundw
          case rel =>
            have hB4 : Below n0 wr w3 := ((HB01.out.alloc HB01.out.size _).mono hnwr).trans HB3.out
            have B6 : ∀ o, Below w3.heap.size w3 (w5.alloc o) := fun o => HB5.out.alloc HB5.out.size o
            exact HRES.out last _ HLL.out (HS3.out.below (B6 _)) (hB4.trans ((B6 _).mono (Nat.le_trans hnwr hB4.size)))
          case measure => simp [intOf]; omega
      · subst h0
        have hnwr : n0 ≤ wr.heap.size := Nat.le_trans HS.out.n0z HS.out.hz
        have hst : s2 = t := by rw [← HS2.out]; exact deliver_none (.inr hb0)
        have hu : U2 = U := by rw [← HU2.out, ← HU.out, hst]
        have ht0 : th = false := by rw [← HTH.out, hb0]; rfl
        have HLL := Lib.hid (show ∀ j ∈ s2.batch, last < (j : Int) by rw [hst]; exact HLAST.out)
        subst hu
        subst ht0
        clear hst hb0
        gi_wp2_with (first
          | (gi_at_call 9; refine (callsIn_wide.2 (HNEXT.out _ ((Below.refl _ wr).alloc (Nat.le_refl _) _))).mono ?_; rintro r w1 ⟨rfl, B1⟩; have B01 : Below wr.heap.size wr w1 := ((Below.refl _ wr).alloc (Nat.le_refl _) _).trans (B1.mono (by simp)); have X1 : Blk w1 wr.heap.size 35 #[.int .i64 2, .int .i64 co, .int .i64 k1, .int .i64 k2, .int .i64 k3, .int .i64 k4, .int .i64 k5, .int .i64 k6, .int .i64 k7, .int .i64 k8, .int .i64 ix] := (Blk.new wr 35 _).below B1 (by simp); have xf0 := X1.cell 0; have xf1 := X1.cell 1; have xf2 := X1.cell 2; have xf3 := X1.cell 3; have xf4 := X1.cell 4; have xf5 := X1.cell 5; have xf6 := X1.cell 6; have xf7 := X1.cell 7; have xf8 := X1.cell 8; have xf9 := X1.cell 9; have xf10 := X1.cell 10; have lx := X1.lt; have R1 := (HR0.out.below B01).hb.choose_spec.1; have y1 : w1.cell? ⟨br, 3, none⟩ = some (.slice va L vc) := (by rw [← HL.out]; exact R1.cell 3); have lr := R1.lt; have hldX := ld35_blk _ wr.heap.size #[.int .i64 2, .int .i64 co, .int .i64 k1, .int .i64 k2, .int .i64 k3, .int .i64 k4, .int .i64 k5, .int .i64 k6, .int .i64 k7, .int .i64 k8, .int .i64 ix] (X1.alloc (.cells #[.int .i64 e1, .int .i64 e2, .int .i64 e3, .int .i64 e4, .int .i64 e5, .int .i64 e6, .int .i64 e7, .int .i64 e8, .int .i64 e9] 37)) rfl; have HB01 := Lib.hid B01; have HX1 := Lib.hid X1; clear B01 B1 X1 R1)
          | (gi_at_call 10; refine (callsIn_wide.2 (HPLAY.out _ (HB01.out.alloc HB01.out.size _))).mono ?_; rintro r w3 ⟨rfl, hS3, hB3, hF3⟩; have X3 : Blk w3 wr.heap.size 35 #[.int .i64 2, .int .i64 co, .int .i64 k1, .int .i64 k2, .int .i64 k3, .int .i64 k4, .int .i64 k5, .int .i64 k6, .int .i64 k7, .int .i64 k8, .int .i64 ix] := hF3.keep _ _ _ (HX1.out.alloc _) (by decide) (by decide) (by decide); have Y3 : Blk w3 w1.heap.size 37 #[.int .i64 e1, .int .i64 e2, .int .i64 e3, .int .i64 e4, .int .i64 e5, .int .i64 e6, .int .i64 e7, .int .i64 e8, .int .i64 e9] := hF3.keep _ _ _ (Blk.new w1 37 _) (by decide) (by decide) (by decide); have z0 := X3.cell 0; have z10 := X3.cell 10; have zy := Y3.cell 8; have lx3 := X3.lt; have ly3 := Y3.lt; obtain ⟨v3, R3⟩ := hS3.R; obtain ⟨va3, vc3, rfl⟩ := own_form R3.hv; obtain ⟨q3, R3c, _⟩ := R3.hb; have y3 : w3.cell? ⟨br, 3, none⟩ = some (.slice va3 L2 vc3) := (by rw [← HL2.out]; exact R3c.cell 3); have lr3 := R3c.lt; have HS3 := Lib.hid hS3; have HB3 := Lib.hid hB3; clear hS3 hB3 hF3 X3 Y3 R3 R3c))
        go_roundw
        case rel =>
          have hB4 : Below n0 wr w3 := ((HB01.out.alloc HB01.out.size _).mono hnwr).trans HB3.out
          have := HRES.out last _ HLL.out HS3.out hB4
          exact this
        case measure => simp [intOf]; omega
      · subst h0
        have hnwr : n0 ≤ wr.heap.size := Nat.le_trans HS.out.n0z HS.out.hz
        have hst : s2 = t := by rw [← HS2.out]; exact deliver_none (.inl hix)
        have hu : U2 = U := by rw [← HU2.out, ← HU.out, hst]
        have ht0 : th = true := by
          rw [← HTH.out]
          cases hb2 : t.batch with
          | nil => exact absurd hb2 hb0
          | cons _ _ => rfl
        have HLL := Lib.hid (show ∀ j ∈ s2.batch, last < (j : Int) by rw [hst]; exact HLAST.out)
        have hix' : decide (0 ≤ ix) = false := by simpa using hix
        subst hu
        subst ht0
        clear hst hb0 hix
        gi_wp2_with (first
          | (gi_at_call 9; refine (callsIn_wide.2 (HNEXT.out _ ((Below.refl _ wr).alloc (Nat.le_refl _) _))).mono ?_; rintro r w1 ⟨rfl, B1⟩; have B01 : Below wr.heap.size wr w1 := ((Below.refl _ wr).alloc (Nat.le_refl _) _).trans (B1.mono (by simp)); have X1 : Blk w1 wr.heap.size 35 #[.int .i64 2, .int .i64 co, .int .i64 k1, .int .i64 k2, .int .i64 k3, .int .i64 k4, .int .i64 k5, .int .i64 k6, .int .i64 k7, .int .i64 k8, .int .i64 ix] := (Blk.new wr 35 _).below B1 (by simp); have xf0 := X1.cell 0; have xf1 := X1.cell 1; have xf2 := X1.cell 2; have xf3 := X1.cell 3; have xf4 := X1.cell 4; have xf5 := X1.cell 5; have xf6 := X1.cell 6; have xf7 := X1.cell 7; have xf8 := X1.cell 8; have xf9 := X1.cell 9; have xf10 := X1.cell 10; have lx := X1.lt; have R1 := (HR0.out.below B01).hb.choose_spec.1; have y1 : w1.cell? ⟨br, 3, none⟩ = some (.slice va L vc) := (by rw [← HL.out]; exact R1.cell 3); have lr := R1.lt; have hldX := ld35_blk _ wr.heap.size #[.int .i64 2, .int .i64 co, .int .i64 k1, .int .i64 k2, .int .i64 k3, .int .i64 k4, .int .i64 k5, .int .i64 k6, .int .i64 k7, .int .i64 k8, .int .i64 ix] (X1.alloc (.cells #[.int .i64 e1, .int .i64 e2, .int .i64 e3, .int .i64 e4, .int .i64 e5, .int .i64 e6, .int .i64 e7, .int .i64 e8, .int .i64 e9] 37)) rfl; have HB01 := Lib.hid B01; have HX1 := Lib.hid X1; clear B01 B1 X1 R1)
          | (gi_at_call 10; refine (callsIn_wide.2 (HPLAY.out _ (HB01.out.alloc HB01.out.size _))).mono ?_; rintro r w3 ⟨rfl, hS3, hB3, hF3⟩; have X3 : Blk w3 wr.heap.size 35 #[.int .i64 2, .int .i64 co, .int .i64 k1, .int .i64 k2, .int .i64 k3, .int .i64 k4, .int .i64 k5, .int .i64 k6, .int .i64 k7, .int .i64 k8, .int .i64 ix] := hF3.keep _ _ _ (HX1.out.alloc _) (by decide) (by decide) (by decide); have Y3 : Blk w3 w1.heap.size 37 #[.int .i64 e1, .int .i64 e2, .int .i64 e3, .int .i64 e4, .int .i64 e5, .int .i64 e6, .int .i64 e7, .int .i64 e8, .int .i64 e9] := hF3.keep _ _ _ (Blk.new w1 37 _) (by decide) (by decide) (by decide); have z0 := X3.cell 0; have z10 := X3.cell 10; have zy := Y3.cell 8; have lx3 := X3.lt; have ly3 := Y3.lt; obtain ⟨v3, R3⟩ := hS3.R; obtain ⟨va3, vc3, rfl⟩ := own_form R3.hv; obtain ⟨q3, R3c, _⟩ := R3.hb; have y3 : w3.cell? ⟨br, 3, none⟩ = some (.slice va3 L2 vc3) := (by rw [← HL2.out]; exact R3c.cell 3); have lr3 := R3c.lt; have HS3 := Lib.hid hS3; have HB3 := Lib.hid hB3; clear hS3 hB3 hF3 X3 Y3 R3 R3c))
        go_roundw
        case rel =>
          have hB4 : Below n0 wr w3 := ((HB01.out.alloc HB01.out.size _).mono hnwr).trans HB3.out
          have := HRES.out last _ HLL.out HS3.out hB4
          exact this
        case measure => simp [intOf]; omega
      · subst h0
        have hnwr : n0 ≤ wr.heap.size := Nat.le_trans HS.out.n0z HS.out.hz
        have hst : s2 = t.deliver ix := by rw [← HS2.out]; rfl
        obtain ⟨i, tt, hbt⟩ : ∃ i tt, t.batch = i :: tt := by
          cases hb2 : t.batch with
          | nil => exact absurd hb2 hb0
          | cons i tt => exact ⟨i, tt, rfl⟩
        have hd := deliver_untold OKT.out hix hbt
        rw [← hst, HU.out, HU2.out] at hd
        obtain ⟨hu, hb2⟩ := hd
        have ht0 : th = true := by rw [← HTH.out, hbt]; rfl
        obtain rfl : e9 = (i : Int) := HE9.out i tt hbt
        have hli : last < (i : Int) := HLAST.out i (by rw [hbt]; exact List.mem_cons_self)
        have HLL := Lib.hid (show ∀ j ∈ s2.batch, (i : Int) < (j : Int) from fun j hj => by
          rw [hb2] at hj
          have h5 := OKT.out.bs
          rw [hbt] at h5
          have := (List.pairwise_cons.1 h5).1 j hj
          omega)
        have hle : decide ((i : Int) ≤ last) = false := by simpa using hli
        have HUU := Lib.hid (show ((U2 : Nat) : Int) = (U : Int) - 1 by omega)
        have hU0 : (1 : Int) ≤ (U : Int) := by omega
        subst ht0
        clear hst hbt hb2 hb0 hu hli
        gi_wp2_with (first
          | (gi_at_call 9; refine (callsIn_wide.2 (HNEXT.out _ ((Below.refl _ wr).alloc (Nat.le_refl _) _))).mono ?_; rintro r w1 ⟨rfl, B1⟩; have B01 : Below wr.heap.size wr w1 := ((Below.refl _ wr).alloc (Nat.le_refl _) _).trans (B1.mono (by simp)); have X1 : Blk w1 wr.heap.size 35 #[.int .i64 2, .int .i64 co, .int .i64 k1, .int .i64 k2, .int .i64 k3, .int .i64 k4, .int .i64 k5, .int .i64 k6, .int .i64 k7, .int .i64 k8, .int .i64 ix] := (Blk.new wr 35 _).below B1 (by simp); have xf0 := X1.cell 0; have xf1 := X1.cell 1; have xf2 := X1.cell 2; have xf3 := X1.cell 3; have xf4 := X1.cell 4; have xf5 := X1.cell 5; have xf6 := X1.cell 6; have xf7 := X1.cell 7; have xf8 := X1.cell 8; have xf9 := X1.cell 9; have xf10 := X1.cell 10; have lx := X1.lt; have R1 := (HR0.out.below B01).hb.choose_spec.1; have y1 : w1.cell? ⟨br, 3, none⟩ = some (.slice va L vc) := (by rw [← HL.out]; exact R1.cell 3); have lr := R1.lt; have hldX := ld35_blk _ wr.heap.size #[.int .i64 2, .int .i64 co, .int .i64 k1, .int .i64 k2, .int .i64 k3, .int .i64 k4, .int .i64 k5, .int .i64 k6, .int .i64 k7, .int .i64 k8, .int .i64 ix] (X1.alloc (.cells #[.int .i64 e1, .int .i64 e2, .int .i64 e3, .int .i64 e4, .int .i64 e5, .int .i64 e6, .int .i64 e7, .int .i64 e8, .int .i64 (i : Int)] 37)) rfl; have HB01 := Lib.hid B01; have HX1 := Lib.hid X1; clear B01 B1 X1 R1)
          | (gi_at_call 10; refine (callsIn_wide.2 (HPLAY.out _ (HB01.out.alloc HB01.out.size _))).mono ?_; rintro r w3 ⟨rfl, hS3, hB3, hF3⟩; have X3 : Blk w3 wr.heap.size 35 #[.int .i64 2, .int .i64 co, .int .i64 k1, .int .i64 k2, .int .i64 k3, .int .i64 k4, .int .i64 k5, .int .i64 k6, .int .i64 k7, .int .i64 k8, .int .i64 ix] := hF3.keep _ _ _ (HX1.out.alloc _) (by decide) (by decide) (by decide); have Y3 : Blk w3 w1.heap.size 37 #[.int .i64 e1, .int .i64 e2, .int .i64 e3, .int .i64 e4, .int .i64 e5, .int .i64 e6, .int .i64 e7, .int .i64 e8, .int .i64 (i : Int)] := hF3.keep _ _ _ (Blk.new w1 37 _) (by decide) (by decide) (by decide); have z0 := X3.cell 0; have z10 := X3.cell 10; have zy := Y3.cell 8; have lx3 := X3.lt; have ly3 := Y3.lt; obtain ⟨v3, R3⟩ := hS3.R; obtain ⟨va3, vc3, rfl⟩ := own_form R3.hv; obtain ⟨q3, R3c, _⟩ := R3.hb; have y3 : w3.cell? ⟨br, 3, none⟩ = some (.slice va3 L2 vc3) := (by rw [← HL2.out]; exact R3c.cell 3); have lr3 := R3c.lt; have HS3 := Lib.hid hS3; have HB3 := Lib.hid hB3; clear hS3 hB3 hF3 X3 Y3 R3 R3c))
        go_roundw
        case rel =>
          have hB4 : Below n0 wr w3 := ((HB01.out.alloc HB01.out.size _).mono hnwr).trans HB3.out
          have := HRES.out (i : Int) _ HLL.out HS3.out hB4
          rw [HUU.out] at this
          exact this
        case measure => simp [intOf]; omega
      · have hnwr : n0 ≤ wr.heap.size := Nat.le_trans HS.out.n0z HS.out.hz
        have hst := step_else OKT.out ⟨d, co, ⟨k1, k2, k3, k4, k5, k6, k7, k8⟩, ix⟩ h0 h1 h2
        rw [HS2.out, HU.out, HU2.out] at hst
        have hu : U2 = U := hst.1
        have HLL := Lib.hid (show ∀ j ∈ s2.batch, last < (j : Int) by rw [hst.2]; exact HLAST.out)
        have g0 : (d == 0) = false := by simpa using h0
        have g1 : (d == 1) = false := by simpa using h1
        have g2 : (d == 2) = false := by simpa using h2
        subst hu
        clear hst h0 h1 h2
        gi_wp2_with (first
          | (gi_at_call 9; refine (callsIn_wide.2 (HNEXT.out _ ((Below.refl _ wr).alloc (Nat.le_refl _) _))).mono ?_; rintro r w1 ⟨rfl, B1⟩; have B01 : Below wr.heap.size wr w1 := ((Below.refl _ wr).alloc (Nat.le_refl _) _).trans (B1.mono (by simp)); have X1 : Blk w1 wr.heap.size 35 #[.int .i64 d, .int .i64 co, .int .i64 k1, .int .i64 k2, .int .i64 k3, .int .i64 k4, .int .i64 k5, .int .i64 k6, .int .i64 k7, .int .i64 k8, .int .i64 ix] := (Blk.new wr 35 _).below B1 (by simp); have xf0 := X1.cell 0; have xf1 := X1.cell 1; have xf2 := X1.cell 2; have xf3 := X1.cell 3; have xf4 := X1.cell 4; have xf5 := X1.cell 5; have xf6 := X1.cell 6; have xf7 := X1.cell 7; have xf8 := X1.cell 8; have xf9 := X1.cell 9; have xf10 := X1.cell 10; have lx := X1.lt; have R1 := (HR0.out.below B01).hb.choose_spec.1; have y1 : w1.cell? ⟨br, 3, none⟩ = some (.slice va L vc) := (by rw [← HL.out]; exact R1.cell 3); have lr := R1.lt; have hldX := ld35_blk _ wr.heap.size #[.int .i64 d, .int .i64 co, .int .i64 k1, .int .i64 k2, .int .i64 k3, .int .i64 k4, .int .i64 k5, .int .i64 k6, .int .i64 k7, .int .i64 k8, .int .i64 ix] (X1.alloc (.cells #[.int .i64 e1, .int .i64 e2, .int .i64 e3, .int .i64 e4, .int .i64 e5, .int .i64 e6, .int .i64 e7, .int .i64 e8, .int .i64 e9] 37)) rfl; have HB01 := Lib.hid B01; have HX1 := Lib.hid X1; clear B01 B1 X1 R1)
          | (gi_at_call 10; refine (callsIn_wide.2 (HPLAY.out _ (HB01.out.alloc HB01.out.size _))).mono ?_; rintro r w3 ⟨rfl, hS3, hB3, hF3⟩; have X3 : Blk w3 wr.heap.size 35 #[.int .i64 d, .int .i64 co, .int .i64 k1, .int .i64 k2, .int .i64 k3, .int .i64 k4, .int .i64 k5, .int .i64 k6, .int .i64 k7, .int .i64 k8, .int .i64 ix] := hF3.keep _ _ _ (HX1.out.alloc _) (by decide) (by decide) (by decide); have Y3 : Blk w3 w1.heap.size 37 #[.int .i64 e1, .int .i64 e2, .int .i64 e3, .int .i64 e4, .int .i64 e5, .int .i64 e6, .int .i64 e7, .int .i64 e8, .int .i64 e9] := hF3.keep _ _ _ (Blk.new w1 37 _) (by decide) (by decide) (by decide); have z0 := X3.cell 0; have z10 := X3.cell 10; have zy := Y3.cell 8; have lx3 := X3.lt; have ly3 := Y3.lt; obtain ⟨v3, R3⟩ := hS3.R; obtain ⟨va3, vc3, rfl⟩ := own_form R3.hv; obtain ⟨q3, R3c, _⟩ := R3.hb; have y3 : w3.cell? ⟨br, 3, none⟩ = some (.slice va3 L2 vc3) := (by rw [← HL2.out]; exact R3c.cell 3); have lr3 := R3c.lt; have HS3 := Lib.hid hS3; have HB3 := Lib.hid hB3; clear hS3 hB3 hF3 X3 Y3 R3 R3c))
        go_roundw
        case rel =>
          have hB4 : Below n0 wr w3 := ((HB01.out.alloc HB01.out.size _).mono hnwr).trans HB3.out
          have := HRES.out last _ HLL.out HS3.out hB4
          exact this
        case measure => simp [intOf]; omega
    · obtain rfl : k = l.length := by omega
      have hd : decide (l.length < l.length) = false := by simp
      rw [List.take_length] at hlast hS
      simp only [List.take_length]
      obtain ⟨t, ht⟩ : ∃ t, s.run l = t := ⟨_, rfl⟩
      rw [ht] at hS
      simp only [ht]
      have okT := hS.S.ok
      have h64 := okT.len64
      have hUT := untold_told t.l
      have HS := Lib.hid hS
      have HB := Lib.hid hB
      have hwr := hB.size
      obtain ⟨v0, R0⟩ := hS.R
      obtain ⟨va, vc, rfl⟩ := own_form R0.hv
      have HR0 := Lib.hid R0
      obtain ⟨U, hU⟩ : ∃ U, untold t.l = U := ⟨_, rfl⟩
      obtain ⟨T, hT⟩ : ∃ T, toldN t.l = T := ⟨_, rfl⟩
      obtain ⟨L, hL⟩ : ∃ L, t.l.length = L := ⟨_, rfl⟩
      rw [hU, hT, hL] at hUT
      rw [hL] at h64
      rw [hU]
      have HU := Lib.hid hU
      have HT := Lib.hid hT
      have HL := Lib.hid hL
      have hTL : T ≤ L := by omega
      have hUL : U ≤ L := by omega
      have hq : ((U : Int) == (L : Int) - (T : Int)) = true := by simp; omega
      clear hlast hS hB okT ht R0 hU hT hL hUT
      gi_wp2_with (gi_at_call 11; refine (callsIn_wide.2 (slots_any _ _)).mono ?_; rintro r w' ⟨rfl, rfl⟩)
      obtain ⟨W0, hW0⟩ : ∃ W0, ((wr.alloc (.cells #[.int .i64 0] 3)).alloc (.cells #[.pointer (some ⟨b, 0, none⟩)] 25)) = W0 := ⟨_, rfl⟩
      have hsz0 : W0.heap.size = wr.heap.size + 2 := by rw [← hW0]; simp
      have B0 : Below wr.heap.size wr W0 := by rw [← hW0]; exact ((Below.refl _ wr).alloc (Nat.le_refl _) _).alloc (by simp) _
      have a1 : Blk W0 wr.heap.size 3 #[.int .i64 ((0 : Nat) : Int)] := by rw [← hW0]; exact (Blk.new' _ _ rfl).alloc _
      have a2 : Blk W0 (wr.heap.size + 1) 25 #[.pointer (some ⟨b, 0, none⟩)] := by rw [← hW0]; exact Blk.new' _ _ (by simp)
      rw [hW0]
      clear hW0
      refine rangeO (by omega) (gf := 29) (lb := #[.pointer (some ⟨wr.heap.size + 1, 0, none⟩)]) rfl (enters_of Try.func29 (by kernel_rfl) rfl)
        (K := fun k => k = wr.heap.size ∨ wr.heap.size + 2 ≤ k) (fun k hk => .inr (by omega))
        (slots1_stops 11 (wr.heap.size + 1) b m t wr W0 _ (fun k hk => by omega) B0 (by omega) a2 HS.out.S) (fun _ => rfl)
        (oI wr t) eX
        (fun t A B row hs hg hr => ⟨blk_kept hs.1 hg hr, own_blw (by omega) hs.2 (Nat.le_refl _) hg hr⟩)
        (fun c t A B row hs _ _ => hs)
        ⟨a1, B0⟩
        (fun T x a' W => ∃ Bx, wr.heap.size + 2 ≤ Bx ∧ Blk W Bx 49 (t.sl x).cells.toArray ∧ a' = { tmps := ((T.setIfInBounds 108 (t.sl x).val).setIfInBounds 19 (.pointer (some ⟨Bx, 0, none⟩))), defers := [] })
        (fun T x a' t A B row hs hg hr => by obtain ⟨Bx, h1, h2, h3⟩ := hs; exact ⟨Bx, h1, blk_kept h2 hg hr, h3⟩) ?assign ?body ?done ?stop
      case assign =>
        rintro l' pre x W2 KK hz ⟨d1, d2⟩ hK
        obtain ⟨y, hy⟩ : ∃ y, t.sl x = y := ⟨_, rfl⟩
        simp only [Cb.enc, hy] at hK ⊢
        clear hy
        obtain ⟨co, ⟨e1, e2, e3, e4, e5, e6, e7, e8⟩, tk, td, ix⟩ := y
        simp only [Sl.val, Sl.cells] at hK ⊢
        gi_wp2
        exact hK _ _ ((KeepsOthers.alloc W2 _).from _) ((Only.refl _ W2).alloc _) ⟨d1.alloc _, d2.alloc d2.size _⟩ ⟨W2.heap.size, by omega, Blk.new _ _ _, rfl⟩
      case body =>
        rintro l' pre x a' W2 hz ⟨d1, d2⟩ ⟨Bx, hBx, bX, rfl⟩ hlt
        simp only [List.setIfInBounds_toArray, List.set_cons_zero, List.set_cons_succ]
        have hpl := cntOf_le t pre
        rw [HL.out] at hlt
        have hcs := cntOf_snoc t pre x
        obtain ⟨C, hC⟩ : ∃ C, cntOf t pre = C := ⟨_, rfl⟩
        obtain ⟨td, htd⟩ : ∃ td, (t.sl x).told = td := ⟨_, rfl⟩
        rw [hC, htd] at hcs
        rw [hC] at d1 hpl
        have hC64 : C < 64 := by omega
        have x10 : W2.cell? ⟨Bx, 10, none⟩ = some (.bool td) := by rw [← htd]; exact bX.cell 10
        have hlx := bX.lt
        have y0 : W2.cell? ⟨wr.heap.size, 0, none⟩ = some (.int .i64 (C : Int)) := d1.cell 0
        have f0 : W2.frozen? ⟨wr.heap.size, 0, none⟩ = false := d1.frozen 0
        have hl1 := d1.lt
        have HCS := Lib.hid hcs
        have D1 := Lib.hid d1
        have D2 := Lib.hid d2
        clear hpl hC htd hcs bX d1 d2 hlt
        cases td with
        | true =>
          gi_wp2_with fail
          refine ⟨KeepsFrom.refl _ _, Only.refl _ _, ?_, D2.out⟩
          rw [HCS.out]
          exact D1.out
        | false =>
          gi_wp2_with fail
          refine ⟨(KeepsOthers.setCell _ _ _).from _, (Only.refl _ W2).setCell (p := ⟨wr.heap.size, 0, none⟩) (.inl (.inl rfl)) _, ?_, D2.out.setCell (p := ⟨wr.heap.size, 0, none⟩) (Nat.le_refl _) _⟩
          rw [HCS.out]
          exact D1.out.set_ 0 _
      case stop =>
        intro D c pre W _ _ _ h
        exact h.elim
      case done =>
        rintro D ys W2 hD hz rfl ⟨d1, d2⟩ hK
        rw [cntOf_all, HU.out] at d1
        have hdl := (Array.getElem?_eq_some_iff.1 hK).1
        have y0 : W2.cell? ⟨wr.heap.size, 0, none⟩ = some (.int .i64 (U : Int)) := d1.cell 0
        have hl1 := d1.lt
        have hR2 := HR0.out.below d2
        obtain ⟨q2, hb2, _⟩ := id hR2.hb
        have y3 : W2.cell? ⟨br, 3, none⟩ = some (.slice va L vc) := by rw [← HL.out]; exact hb2.cell 3
        have hlb2 := hb2.lt
        have htold := told_at W2.drew base br _ t (hR2.below (Below.refl _ W2).drew) (by rw [HL.out]; exact h64)
        rw [HT.out] at htold
        have HTD := Lib.hid htold
        have D2 := Lib.hid d2
        have HK := Lib.hid hK
        clear d1 d2 hR2 hb2 htold hK a1 a2 B0
        gi_wp2_with (first
          | (refine wpIn_region_stG ((wide_wide _)) 16 (by kernel_rfl) (by kernel_rfl) (by kernel_rfl) ?_; simp only [List.take_succ_cons, List.take_zero, List.drop_succ_cons, List.drop_zero]; (repeat (first | (refine StG.skip rfl rfl ?_) | (refine StG.skipU rfl (by simp only [Act.put, List.setIfInBounds_toArray, List.set_cons_zero, List.set_cons_succ]; rfl) ?_) | (refine StG.want rfl (fun K hK => ?_); go_simp; (try go_bits); refine hK _ ?_; clear hK K) | (refine StG.want rfl (fun K hK => ?_); go_simp; refine ⟨_, (HTD.out).mono (fun _ _ h => ⟨h.1, h.2.symm⟩), hK _ ?_⟩; clear hK K))); refine StG.nil ?_)
          | (gi_at_call 8; refine (callsIn_wide.2 (awake_any _)).mono ?_; rintro r w5 ⟨rfl, B5⟩))
        have v1 : w5.heap[D]? = some (.deferred (some [])) := (B5.block D (by simpa using hdl)).trans HK.out
        have hM : Marked w5 w.heap.size [D] := (Marked.nil _ _).cons (by omega) v1 (fun _ h => by cases h)
        have B7 : Below w.heap.size w w5 := (HB.out.trans (D2.out.mono hwr)).drew.trans (B5.mono (by have := D2.out.size; simp; omega))
        refine leaves_marks _ (by simp) _ [D] _ hM (fun w' hw' => ?_)
        exact ⟨_, results_tmp rfl _ _ _, rfl, below_past B7 hM hw' B7.size⟩
theorem once (w : World) (x : Giv) (A : Option Addr) (cap : Nat) (l : List CAct) (ha : ActsAt w A l) :
    Calls Try.prog 3 #[x.val, .slice A l.length cap] w fun r w' => r = .returned (.bool true) ∧ Below w.heap.size w w' := by
  by_cases h : x.can
  · exact callsIn_wide.1 (once_in w x A cap l h ha)
  · exact once_no w x A _ cap h
end Go.Proofs.Ytaibhhppdmncfaa
