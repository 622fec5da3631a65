/- Combine: the reference's Post. -/
import Derived.Test.YtaibhhppdmncfaaCbI
import Derived.Deep.AppendLies
import Derived.Deep.RegionLaw
namespace Go.Proofs.Ytaibhhppdmncfaa
open Go.RowKit Go.Maps

theorem swap_ext {A B : List Sl} {x y : Sl} {cur : Array Value} {j : Nat} (hj : j = A.length) (hfit : (j + 1) * 12 + 12 ≤ cur.size)
    (hext : ∀ k (h : k < (A ++ [y] ++ x :: B).length), cur.extract (k * 12) (k * 12 + 12) = (A ++ [y] ++ x :: B)[k].cells.toArray) (k : Nat) (hk : k < (A ++ x :: y :: B).length) :
    (putAt (putAt cur ((j + 1) * 12) y.cells) (j * 12) x.cells).extract (k * 12) (k * 12 + 12) = (A ++ x :: y :: B)[k].cells.toArray := by
  have hf1 : (j + 1) * 12 + y.cells.length ≤ cur.size := by rw [sl_len]; exact hfit
  have hf2 : j * 12 + x.cells.length ≤ (putAt cur ((j + 1) * 12) y.cells).size := by rw [size_putAt hf1, sl_len]; omega
  by_cases e0 : k = j
  · have h1 : (A ++ x :: y :: B)[k] = x := by
      rw [List.getElem_append_right (by omega)]
      simp [e0, hj]
    rw [h1, e0]
    exact putAt_same (vs := x.cells) hf2
  · rw [putAt_other hf2 (by rw [sl_len]; omega)]
    by_cases e1 : k = j + 1
    · have h1 : (A ++ x :: y :: B)[k] = y := by
        rw [List.getElem_append_right (by omega)]
        simp [e1, hj]
      rw [h1, e1]
      exact putAt_same (vs := y.cells) hf1
    · rw [putAt_other hf1 (by rw [sl_len]; omega), hext k (by simp at hk ⊢; omega)]
      congr 2
      by_cases h2 : k < A.length
      · rw [List.getElem_append_left (by simp; omega), List.getElem_append_left h2, List.getElem_append_left h2]
      · have hk2 : k - A.length - 2 + 2 = k - A.length := by omega
        rw [List.getElem_append_right (by simp; omega), List.getElem_append_right (by omega)]
        obtain ⟨d, hd⟩ : ∃ d, k = A.length + d + 2 := ⟨k - A.length - 2, by omega⟩
        subst hd
        simp [show A.length + d + 2 - (A.length + 1) = d + 1 by omega, show A.length + d + 2 - A.length = d + 2 by omega]
theorem info49 : (Try.prog.info? 49).map (fun i => (i.zero, i.size, i.bytes)) = some (some (Sl.val default), 12, 88) := by kernel_rfl

attribute [local go_sem ↓] ld33
attribute [local go_sem] run_ld33 ext8
attribute [local go_sem ↓] ld49 st49
attribute [local go_sem] run_ld49 run_st49 sl_ones sl_size sl_take sl_extract sl_put sl_put' sl_len
set_option maxRecDepth 100000 in
set_option maxHeartbeats 4000000 in
theorem rPost_at (w : World) (base b : Nat) (v : Value) (s : Cb) (i : Int) (x : Cl) (ok : s.ok) (h : RefAt w base b v s) (hbase : base ≤ w.heap.size) : Calls Try.prog 24 #[.pointer (some ⟨b, 0, none⟩), .int .i64 i, x.val] w fun r w' =>
    r = .returned (.int .i64 (s.postE i)) ∧ ∃ v', RefAt w' base b v' (s.post i x) ∧ Only (TouchR b v) w w' := by
  obtain ⟨W1, hW1⟩ : ∃ W1, w.alloc (.cells x.cells.toArray 33) = W1 := ⟨_, rfl⟩
  have B1 : Below w.heap.size w W1 := by rw [← hW1]; exact (Below.refl _ _).alloc (Nat.le_refl _) _
  have h1 := h.below B1
  have hmine := mine_at W1 base b v s i ok h1
  have hplace := place_at W1.drew base b v s i (h1.below (Below.refl _ _).drew) ok.len64
  have HH := Lib.hid h
  have H1 := Lib.hid h1
  have HB := Lib.hid B1
  have OK := Lib.hid ok
  obtain ⟨k1, k2, k3, k4, k5, k6, k7, k8⟩ := x
  unfold Cb.postE
  by_cases ho : s.own i = true
  · have hnn := Cb.own_nn ho
    have hc2 := ok.c2
    obtain ⟨n, rfl⟩ := Int.eq_ofNat_of_zero_le hnn.1
    have hn64 : n < 64 := by omega
    rw [ho] at hmine
    rw [if_pos ho, Int.toNat_natCast]
    have HMI := Lib.hid hmine
    have HW := Lib.hid hW1
    rcases place_cases s.l (n : Int) with ⟨e1, e2⟩ | ⟨k, hk, e1, _, e2⟩
    · rw [find_slot] at e2
      rw [e2]
      simp only [Option.isSome_none, Bool.false_eq_true, if_false]
      rw [e1] at hplace
      have HPL := Lib.hid hplace
      have HS := Lib.hid e2
      have HO := Lib.hid ho
      clear h h1 B1 hmine hplace hW1 e1 e2 ho ok
      go_enter Try.func24, Try.ntmps24
      go_wp2_with (first
        | (rw [HW.out]; go_at_call 34; refine (HMI.out).mono ?_; rintro r w' ⟨rfl, rfl⟩)
        | (go_at_call 35; refine (HPL.out).mono ?_; rintro r w' ⟨rfl, rfl⟩))
      obtain ⟨W, hWW⟩ : ∃ W, W1.drew = W := ⟨_, rfl⟩
      have BW : Below w.heap.size w W := by rw [← hWW]; exact HB.out.drew
      have RW : RefAt W base b v s := HH.out.below BW
      have bx : Blk W w.heap.size 33 #[.int .i64 k1, .int .i64 k2, .int .i64 k3, .int .i64 k4, .int .i64 k5, .int .i64 k6, .int .i64 k7, .int .i64 k8] := by rw [← hWW, ← HW.out]; exact (Blk.new w 33 _).drew
      rw [hWW]
      obtain ⟨⟨q, hb, hq⟩, hv⟩ := RW
      have hlen := OK.out.len64
      obtain ⟨a, c, rfl⟩ := own_form hv
      obtain ⟨N, hN⟩ : ∃ N, N = s.l.length := ⟨_, rfl⟩
      rw [← hN] at hb hv hlen
      have z1 : W.cell? ⟨b, 3, none⟩ = some (.slice a N c) := hb.cell 3
      have z2 : W.frozen? ⟨b, 3, none⟩ = false := hb.frozen 3
      have z3 := bx.rowOf
      have z4 := bx.plain
      have lW := hb.lt
      have lB := bx.lt
      have hne := own_blk_ne hv hb (by decide)
      have hbW : base ≤ W.heap.size := Nat.le_trans hbase BW.size
      obtain ⟨i0, hi0, hz0, hz1, hz2⟩ := info_parts info49
      have HOWN := Lib.hid hv
      have HBW := Lib.hid hb
      have HNE := Lib.hid hne
      have HQ := Lib.hid hq
      have HBB := Lib.hid BW
      have HNl := Lib.hid hN
      clear hv hb hne hq BW hN bx hWW HPL HMI HW
      go_region_law
        ((refine step_append_lies _ (by rfl) _ _ _ (by rfl) base 49 i0 _ 12 88 Try.underlying40 hi0 hz0 hz1 hz2 rfl (by omega) (.slice a N c) N (flat s.l) (by rfl) (HOWN.out.alloc _)
            ⟨W.heap.size, 0, none⟩ 1 1 [.int .i64 (n : Int), .int .i64 k1, .int .i64 k2, .int .i64 k3, .int .i64 k4, .int .i64 k5, .int .i64 k6, .int .i64 k7, .int .i64 k8, .bool false, .bool false, .int .i64 0] (by rfl) (by rfl) (World.news_of_block (t := 49) (fr := (0, 0)) (heap_alloc_new W _)) (fun u hu => by simp at hu; rcases hu with rfl | rfl | rfl | rfl | rfl | rfl | rfl | rfl | rfl | rfl | rfl | rfl <;> rfl)
            (by omega) (by simp only [maxLen]; omega) (by omega) (by simp; omega) (W.heap.size + 1) (by simp) ?_; intro gg cap w9 hown9 hgrow hat hlt9;
            have hbx := ((HBW.out.alloc (.cells #[.int .i64 (n : Int), .int .i64 k1, .int .i64 k2, .int .i64 k3, .int .i64 k4, .int .i64 k5, .int .i64 k6, .int .i64 k7, .int .i64 k8, .bool false, .bool false, .int .i64 0] 49)).drewN 1).grown hgrow (Ne.symm HNE.out);
            have y2 : w9.cell? ⟨b, 3, none⟩ = some (.slice a N c) := hbx.cell 3;
            have y3 : w9.frozen? ⟨b, 3, none⟩ = false := hbx.frozen 3))
      all_goals
        obtain ⟨W2, hW2⟩ : ∃ W2, w9.setCell ⟨b, 3, none⟩ (.slice (some ⟨gg, 0, none⟩) (N + 1) cap) = W2 := ⟨_, rfl⟩
        rw [hW2]
        have hb2 : Blk W2 b 43 #[.int .i64 (s.node : Int), .int .i64 (s.nodes : Int), .int .i64 (s.cores : Int), .slice (some ⟨gg, 0, none⟩) (N + 1) cap, whoV s.who, q] := by rw [← hW2]; exact hbx.set_ 3 _
        have hgb : gg ≠ b := by
          rcases hat with hh | hh
          · exact fun e => HNE.out (by rw [hh, e])
          · omega
        have ho9 : Only (fun k => (Value.slice a N c).ownBlock = some k) W w9 := (((Only.refl _ W).alloc _).drewN 1).grown hgrow (fun j hj => .inl hj)
        have ho2 : Only (TouchR b (.slice a N c)) W W2 := by rw [← hW2]; exact (ho9.mono (fun k hk => .inr hk)).setCell (p := ⟨b, 3, none⟩) (.inl (.inl rfl)) _
        have hq2 : RdAt W2 q s.batch := HQ.out.only ho2 (fun g0 cur0 hc e => by
          rcases e with e | e
          · exact (hc.ne_ HBW.out (by decide)) e
          · exact own_blk_ne' HOWN.out hc (by decide) g0 e rfl)
        obtain ⟨x', hx'⟩ : ∃ x', newSl n ⟨k1, k2, k3, k4, k5, k6, k7, k8⟩ = x' := ⟨_, rfl⟩
        have hxc : x'.core = n := by rw [← hx']; rfl
        have hlen2 : (s.l ++ [x']).length = N + 1 := by rw [List.length_append, HNl.out]; rfl
        have hown2 : W2.ownsRow base 49 12 (.slice (some ⟨gg, 0, none⟩) (s.l ++ [x']).length cap) (s.l ++ [x']).length (flat (s.l ++ [x'])) := by
          rw [hlen2, flat_snoc, ← hx']
          have ho3 : Only (· = b) w9 W2 := by rw [← hW2]; exact (Only.refl (· = b) w9).setCell (p := ⟨b, 3, none⟩) (.inl rfl) _
          refine own_only hown9 ho3 (fun j hj e => ?_)
          have hj' : gg = j := by simpa [Value.ownBlock] using hj
          exact hgb (hj'.trans e)
        obtain ⟨g', cap', cur0, e1, hgg, hcur0, hcp1, hcp2, hsz0, hext0⟩ := own_ext hown2 (by omega)
        obtain ⟨rfl, rfl⟩ : gg = g' ∧ cap = cap' := by injection e1 with e1 _ e3; injection e1 with e1; injection e1 with e1; exact ⟨e1, e3⟩
        have HB2 := Lib.hid hb2
        have HAT := Lib.hid hat
        have HC0 := Lib.hid hcur0
        have hlen3 := hlen2
        have HO2 := Lib.hid ho2
        have HQ2 := Lib.hid hq2
        have HXC := Lib.hid hxc
        have HX' := Lib.hid hx'
        have hstart : ∃ (A B : List Sl) (cur : Array Value), s.l = A ++ B ∧ Value.int .i64 (N : Int) = .int .i64 (A.length : Int) ∧ (∀ y ∈ B, n < y.core) ∧ Blk W2 gg 49 cur ∧ cur.size = cap * 12 ∧
            (∀ k (h : k < (A ++ x' :: B).length), cur.extract (k * 12) (k * 12 + 12) = (A ++ x' :: B)[k].cells.toArray) ∧ Only (· = gg) W2 W2 :=
          ⟨s.l, [], cur0, by simp, by rw [HNl.out], (fun y hy => by cases hy), hcur0, hsz0, hext0, Only.refl _ _⟩
        have HST := Lib.hid hstart
        have y1 : W2.cell? ⟨b, 3, none⟩ = some (.slice (some ⟨gg, 0, none⟩) (N + 1) cap) := hb2.cell 3
        clear hstart hb2 ho2 hq2 hxc hx' hown2 hext0 hcur0 hsz0 hW2 hbx y2 y3 ho9 hown9 hgrow hat hlt9 e1 z1 z2 z3 z4 hlen2
        go_wp2_with fail
        go_loopw [7] (fun i' wr => ∃ (A B : List Sl) (cur : Array Value), s.l = A ++ B ∧ i' = .int .i64 (A.length : Int) ∧ (∀ y ∈ B, n < y.core) ∧ Blk wr gg 49 cur ∧ cur.size = cap * 12 ∧
            (∀ k (h : k < (A ++ x' :: B).length), cur.extract (k * 12) (k * 12 + 12) = (A ++ x' :: B)[k].cells.toArray) ∧ Only (· = gg) W2 wr)
          (fun i' _ => (intOf i').toNat)
        case atStart => exact HST.out
        case round =>
          obtain ⟨A, B, cur, hl, rfl, hB, hcur, hsz, hext, ho⟩ := hrel
          clear y1
          have hb3 := HB2.out.only ho (fun e => hgb e.symm)
          have y1 : wr.cell? ⟨b, 3, none⟩ = some (.slice (some ⟨gg, 0, none⟩) (N + 1) cap) := hb3.cell 3
          have hAB : (A ++ x' :: B).length = N + 1 := by rw [HNl.out, hl]; simp; omega
          have hfin : (∀ y ∈ A, y.core < n) → RefAt wr base b (.slice (some ⟨gg, 0, none⟩) (N + 1) cap) (s.post (n : Int) ⟨k1, k2, k3, k4, k5, k6, k7, k8⟩) ∧ Only (TouchR b (.slice a N c)) w wr := fun hA => by
            have hins : ins x' s.l = A ++ x' :: B := by rw [hl]; exact ins_split (by rw [HXC.out]; exact hA) (by rw [HXC.out]; exact hB)
            have hp : s.post (n : Int) ⟨k1, k2, k3, k4, k5, k6, k7, k8⟩ = { s with l := A ++ x' :: B } := by
              unfold Cb.post Cb.canPost
              rw [HO.out, Int.toNat_natCast, HS.out, HX'.out, hins]
              rfl
            rw [hp]
            refine ⟨⟨⟨q, hb3, HQ2.out.only ho (fun g0 c0 hc e => (hc.ne_ HC0.out (by decide)) e)⟩, ?_⟩, ?_⟩
            · have := own_mk hgg hcur (by rw [hAB, ← hlen3]; exact hcp1) hcp2 hsz hext
              rw [hAB] at this
              show World.ownsRow _ base 49 12 _ (A ++ x' :: B).length (flat (A ++ x' :: B))
              rw [hAB]
              exact this
            · have O1 : Only (TouchR b (.slice a N c)) w W2 := (Only.of_below HBB.out).trans HO2.out
              refine ⟨ho.os.trans O1.os, ho.tape.trans O1.tape, ho.output.trans O1.output, Nat.le_trans O1.size ho.size, fun k hk hn => (ho.block k (Nat.lt_of_lt_of_le hk O1.size) (fun e => ?_)).trans (O1.block k hk hn)⟩
              rcases HAT.out with hh | hh
              · exact hn (.inr (by rw [hh, e]))
              · have := HBB.out.size; omega
          have HFIN := Lib.hid hfin
          rcases List.eq_nil_or_concat A with rfl | ⟨A', y, rfl⟩
          · have hf := HFIN.out (fun y hy => by cases hy)
            have HF := Lib.hid hf
            clear hl hB hcur hsz hext ho hb3 hfin hf
            simp only [List.length_nil]
            go_wp2_with (refine wp_region_stG 21 (by kernel_rfl) (by kernel_rfl) ?_; simp only [List.take_succ_cons, List.take_zero, List.drop_succ_cons, List.drop_zero]; (repeat (first | (refine StG.skip rfl rfl ?_) | (refine StG.skipU rfl (by simp only [Act.put, List.setIfInBounds_toArray, List.set_cons_zero, List.set_cons_succ]; rfl) ?_) | (refine StG.want rfl (fun K hK => ?_); go_simp; (try go_bits); refine hK _ ?_; clear hK K))); refine StG.nil ?_)
            go_ret
            exact ⟨rfl, _, HF.out.1.below (Below.refl _ _).drew, by have h9 := HF.out.2.drew; rw [HNl.out] at h9; exact h9⟩
          · rw [List.concat_eq_append] at hl hext hAB HFIN
            obtain ⟨j, hj⟩ : ∃ j, j = A'.length := ⟨_, rfl⟩
            have hjN : j + 1 ≤ N := by simp only [List.length_append, List.length_cons] at hAB; omega
            have hja : j < (A' ++ [y] ++ x' :: B).length := by rw [hAB]; omega
            have hjb : j + 1 < (A' ++ [y] ++ x' :: B).length := by rw [hAB]; omega
            have g1 : (A' ++ [y] ++ x' :: B)[j] = y := by
              rw [List.getElem_append_left (by simp; omega), List.getElem_append_right (by omega)]
              simp [hj]
            have g2 : (A' ++ [y] ++ x' :: B)[j + 1] = x' := by
              rw [List.getElem_append_right (by simp; omega)]
              simp [hj]
            have hy := hext j hja
            rw [g1] at hy
            have hx := hext (j + 1) hjb
            rw [g2] at hx
            have hcapN : N + 1 ≤ cap := by rw [← hlen3]; exact hcp1
            have hfit1 : (j + 1) * 12 + 12 ≤ cur.size := by rw [hsz]; omega
            have hfit0 : j * 12 + 12 ≤ cur.size := by omega
            have d1 : wr.cell? ⟨gg, (j + 1) * 12, none⟩ = some (.int .i64 (n : Int)) := by
              have := (hcur.cell ((j + 1) * 12 + 0)).trans (ext_get hx (by decide) hfit1)
              refine Eq.trans this ?_
              show some (Value.int .i64 (x'.core : Int)) = _
              rw [HXC.out]
            have d2 : wr.cell? ⟨gg, j * 12, none⟩ = some (.int .i64 (y.core : Int)) := (hcur.cell (j * 12 + 0)).trans (ext_get hy (by decide) hfit0)
            have r1 := hcur.rowOf
            have r2 := hcur.plain
            have hlg := hcur.lt
            have hlb := hb3.lt
            have hlenj : ((A' ++ [y]).length : Int) = (j : Int) + 1 := by simp [hj]
            have HJ := Lib.hid hj
            have HEXT := Lib.hid hext
            have HL := Lib.hid hl
            have HBB3 := Lib.hid hB
            have HCUR := Lib.hid hcur
            have HOO := Lib.hid ho
            have HAB := Lib.hid hAB
            have HLJ := Lib.hid hlenj
            have HSZ := Lib.hid hsz
            have hj0 : decide ((0 : Int) < (j : Int) + 1) = true := by rw [decide_eq_true_iff]; omega
            have hjk1 : decide (N + 1 ≤ j + 1) = false := by rw [decide_eq_false_iff_not]; omega
            have hjk2 : decide (N + 1 ≤ j) = false := by rw [decide_eq_false_iff_not]; omega
            have hja1 : (0 : Int) ≤ (j : Int) + 1 := by omega
            have hja2 : j < N := by omega
            have hja3 : j < N + 1 := by omega
            have hja4 : (j : Int) < (N : Int) + 1 := by omega
            rw [List.concat_eq_append, hlenj]
            clear hl hB hcur hext ho hb3 hfin hja hjb g1 g2 hj hAB hlenj hsz
            by_cases hyn : n < y.core
            · go_wp2_with (refine wp_region_stG (id := 7) 21 (by kernel_rfl) (by kernel_rfl) ?_; simp only [List.take_succ_cons, List.take_zero, List.drop_succ_cons, List.drop_zero]; (repeat (first | (refine StG.skip rfl rfl ?_) | (refine StG.skipU rfl (by simp only [Act.put, List.setIfInBounds_toArray, List.set_cons_zero, List.set_cons_succ]; rfl) ?_) | (refine StG.want rfl (fun K hK => ?_); go_simp; (try go_bits); refine hK _ ?_; clear hK K))); refine StG.nil ?_)
              have r5 : rowOf (wr.setRow gg (putAt cur ((j + 1) * 12) y.cells)) gg = putAt cur ((j + 1) * 12) y.cells := rowOf_setRow_same _ _ _ r2
              have r6 : plainRow (wr.setRow gg (putAt cur ((j + 1) * 12) y.cells)) gg = true := plainRow_setRow_same _ _ _ r2
              have hfit2 : j * 12 + 12 ≤ (putAt cur ((j + 1) * 12) y.cells).size := by rw [size_putAt (by rw [sl_len]; exact hfit1)]; exact hfit0
              go_big_region
              have hl2 : s.l = A' ++ y :: B := by rw [HL.out]; simp
              have hcur2 := ((HCUR.out.row_ (putAt cur ((j + 1) * 12) y.cells)).row_ (putAt (putAt cur ((j + 1) * 12) y.cells) (j * 12) x'.cells)).drew.drew
              have ho2 := ((HOO.out.setRow (g := gg) (.inl rfl) (putAt cur ((j + 1) * 12) y.cells)).setRow (g := gg) (.inl rfl) (putAt (putAt cur ((j + 1) * 12) y.cells) (j * 12) x'.cells)).drew.drew
              have hsz2 : (putAt (putAt cur ((j + 1) * 12) y.cells) (j * 12) x'.cells).size = cap * 12 := by
                rw [size_putAt (by rw [sl_len]; exact hfit2), size_putAt (by rw [sl_len]; exact hfit1), HSZ.out]
              have hext2 : ∀ k (h : k < (A' ++ x' :: y :: B).length), (putAt (putAt cur ((j + 1) * 12) y.cells) (j * 12) x'.cells).extract (k * 12) (k * 12 + 12) = (A' ++ x' :: y :: B)[k].cells.toArray := fun k hk => swap_ext HJ.out hfit1 HEXT.out k hk
              have HC2 := Lib.hid hcur2
              have HO22 := Lib.hid ho2
              have HE2 := Lib.hid hext2
              have HS2 := Lib.hid hsz2
              have HL2 := Lib.hid hl2
              clear hl2 hcur2 ho2 hext2 hsz2 r5 r6 hfit2
              go_wp2_with fail
              go_roundw
              case rel =>
                refine ⟨A', y :: B, _, HL2.out, by rw [← HJ.out], fun z hz => ?_, HC2.out, HS2.out, HE2.out, HO22.out⟩
                rcases List.mem_cons.1 hz with rfl | hz
                · exact hyn
                · exact HBB3.out z hz
              case measure => simp [intOf]
            · have hyn' : decide (n < y.core) = false := by simpa using hyn
              have hf := HFIN.out (fun z hz => by
                have hne : y.core ≠ n := none_ne HS.out y (by rw [HL.out]; simp)
                rcases List.mem_append.1 hz with hz | hz
                · have hsrt := OK.out.srt
                  rw [HL.out] at hsrt
                  have := (List.pairwise_append.1 (List.pairwise_append.1 hsrt).1).2.2 z hz y (by simp)
                  omega
                · obtain rfl : z = y := by simpa using hz
                  omega)
              have HF := Lib.hid hf
              clear hf hyn
              go_wp2_with (refine wp_region_stG (id := 7) 21 (by kernel_rfl) (by kernel_rfl) ?_; simp only [List.take_succ_cons, List.take_zero, List.drop_succ_cons, List.drop_zero]; (repeat (first | (refine StG.skip rfl rfl ?_) | (refine StG.skipU rfl (by simp only [Act.put, List.setIfInBounds_toArray, List.set_cons_zero, List.set_cons_succ]; rfl) ?_) | (refine StG.want rfl (fun K hK => ?_); go_simp; (try go_bits); refine hK _ ?_; clear hK K))); refine StG.nil ?_)
              go_ret
              exact ⟨rfl, _, HF.out.1.below (Below.refl _ _).drew, by have h9 := HF.out.2.drew; rw [HNl.out] at h9; exact h9⟩
    · rw [find_slot] at e2
      rw [e2]
      simp only [Option.isSome_some, if_true]
      rw [e1] at hplace
      have HPL := Lib.hid hplace
      have hp : s.post (n : Int) ⟨k1, k2, k3, k4, k5, k6, k7, k8⟩ = s := by
        unfold Cb.post Cb.canPost
        rw [if_neg]
        rw [Int.toNat_natCast, e2]
        simp
      have HP := Lib.hid hp
      clear h h1 B1 hmine hplace hW1 e1 e2 ho ok hp
      go_enter Try.func24, Try.ntmps24
      go_wp2_with (first
        | (rw [HW.out]; go_at_call 34; refine (HMI.out).mono ?_; rintro r w' ⟨rfl, rfl⟩)
        | (go_at_call 35; refine (HPL.out).mono ?_; rintro r w' ⟨rfl, rfl⟩))
      go_ret
      refine ⟨rfl, v, ?_, ?_⟩
      · rw [HP.out]
        exact H1.out.below (Below.refl _ W1).drew
      · exact Only.of_below (HB.out.trans ((Below.refl _ W1).drew.mono HB.out.size))
  · have ho' : s.own i = false := by simpa using ho
    rw [ho'] at hmine
    rw [if_neg ho]
    have hp : s.post i ⟨k1, k2, k3, k4, k5, k6, k7, k8⟩ = s := by
      unfold Cb.post Cb.canPost
      rw [ho']
      rfl
    have HP := Lib.hid hp
    have HW := Lib.hid hW1
    have H := Lib.hid hmine
    clear h h1 B1 hW1 hmine hplace ho ho' hp ok
    go_enter Try.func24, Try.ntmps24
    go_wp2_with ((rw [HW.out]; go_at_call 34; refine (H.out).mono ?_; rintro r w' ⟨rfl, rfl⟩))
    go_ret
    refine ⟨rfl, v, ?_, ?_⟩
    · rw [HP.out]
      exact H1.out.below (Below.refl _ W1).drew
    · exact Only.of_below (HB.out.trans ((Below.refl _ W1).drew.mono HB.out.size))
end Go.Proofs.Ytaibhhppdmncfaa
