/- Combine: the law Alone, walked. -/
import Derived.Test.YtaibhhppdmncfaaCbT
namespace Go.Proofs.Ytaibhhppdmncfaa
open Go.RowKit Go.Maps

theorem tell_slot {s : Cb} (ok : s.ok) {i : Nat} {tt : List Nat} (hb : s.batch = i :: tt) (idx : Int) : ∃ x, slotAt (s.l.map (Sl.tell i idx)) i = some x ∧ x.told = true ∧ x.index = idx := by
  obtain ⟨x, hx, hxi, _⟩ := ok.bat i (by rw [hb]; exact List.mem_cons_self)
  have h1 : slotAt s.l i = some x := by rw [← hxi]; exact slotAt_mem ok.srt hx
  refine ⟨x.tell i idx, by rw [slotAt_map (Sl.tell_core i idx), h1]; rfl, ?_, ?_⟩
  · unfold Sl.tell; rw [if_pos hxi]
  · unfold Sl.tell; rw [if_pos hxi]
theorem deliver_cons {s : Cb} (ok : s.ok) {idx : Int} (h0 : 0 ≤ idx) {i : Nat} {tt : List Nat} (hb : s.batch = i :: tt) :
    s.deliverE idx = 0 ∧ (s.deliver idx).batch = tt ∧ (s.deliver idx).who = s.who ∧ (s.deliver idx).cores = s.cores ∧ indexV (s.deliver idx).l (i : Int) = .tuple #[.int .i64 idx, .bool true] ∧ (s.deliver idx).doneE (i : Int) = 0 := by
  obtain ⟨x, h1, h2, h3⟩ := tell_slot ok hb idx
  have hd : s.deliver idx = { s with l := s.l.map (Sl.tell i idx), batch := tt } := by unfold Cb.deliver; rw [if_neg (by omega), hb]
  rw [hd]
  refine ⟨?_, rfl, rfl, rfl, ?_, ?_⟩
  · unfold Cb.deliverE
    rw [if_neg (by omega), hb]
  · unfold indexV
    simp only
    rw [find_slot, h1]
    simp only [h2, h3, if_true]
  · unfold Cb.doneE toldAt
    simp only
    rw [find_slot, h1]
    simp only [h2, if_true]
theorem done_same (s : Cb) (i : Int) : (s.done i).batch = s.batch ∧ (s.done i).who = s.who ∧ (s.done i).cores = s.cores := by
  unfold Cb.done
  split <;> exact ⟨rfl, rfl, rfl⟩
theorem release_zero {s : Cb} {k : Nat} (hw : s.who = some k) (hb : s.batch = []) : s.releaseE (k : Int) = 0 := by
  unfold Cb.releaseE Cb.mayRelease
  rw [hw, hb]
  simp
theorem step_same (s : Cb) (a : CAct) : (s.step a).node = s.node ∧ (s.step a).nodes = s.nodes ∧ (s.step a).cores = s.cores := by
  unfold Cb.step Cb.post Cb.elect Cb.deliver Cb.done Cb.release
  repeat' split
  all_goals exact ⟨rfl, rfl, rfl⟩
theorem run_same (s : Cb) (l : List CAct) : (s.run l).node = s.node ∧ (s.run l).nodes = s.nodes ∧ (s.run l).cores = s.cores := by
  induction l generalizing s with
  | nil => exact ⟨rfl, rfl, rfl⟩
  | cons a l ih =>
    have h1 := ih (s.step a)
    have h2 := step_same s a
    exact ⟨h1.1.trans h2.1, h1.2.1.trans h2.2.1, h1.2.2.trans h2.2.2⟩
theorem none_told {s : Cb} (ok : s.ok) (hw : s.who = none) (hf : fresh s.l = []) : s.l.length = toldN s.l := by
  unfold toldN
  symm
  rw [List.countP_eq_length]
  intro x hx
  have h1 : x.taken = true := by
    cases e : x.taken
    · have := mem_fresh.2 ⟨x, hx, rfl, e⟩
      rw [hf] at this
      cases this
    · rfl
  rcases (ok.tak x hx).1 h1 with h2 | h2
  · exact h2
  · rw [ok.free hw] at h2; cases h2

theorem alone_no (w : World) (x : Giv) (A : Option Addr) (len cap : Nat) (h : ¬ x.can) :
    Calls Try.prog 5 #[x.val, .slice A len cap] w fun r w' => r = .returned (.bool true) ∧ Below w.heap.size w w' := by
  have H := Lib.hid h; clear h
  have HM := Lib.hid (fun W => made_no W x A len cap H.out)
  obtain ⟨a, b, c⟩ := x
  simp only [Giv.val, Giv.cells] at HM ⊢
  go_enter Try.func5, Try.ntmps5
  go_wp2_with (first
    | (go_at_call 7; refine (HM.out _).mono ?_; rintro r w1 ⟨rfl, B1⟩)
    | (go_at_call 8; refine (awake_any _).mono ?_; rintro r w2 ⟨rfl, B2⟩))
  go_ret
  exact ⟨rfl, ((Below.refl _ w).alloc (Nat.le_refl _) _).trans ((B1.trans (B2.mono B1.size)).mono (by simp))⟩

/-- What stands while Alone goes on. -/
structure AlB (w W : World) (b m : Nat) (x : Giv) (t : Cb) : Prop where
  C : CbAt W b m t
  X : Blk W w.heap.size 23 x.cells
  B : Below w.heap.size w W
  hb : w.heap.size < b
  hm : w.heap.size < m
theorem AlB.below {w W W' : World} {b m : Nat} {x : Giv} {t : Cb} (h : AlB w W b m x t) (hb : Below W.heap.size W W') : AlB w W' b m x t :=
  ⟨h.C.below hb, h.X.below hb h.X.lt, h.B.trans (hb.mono h.B.size), h.hb, h.hm⟩
theorem AlB.touch {w W W' : World} {b m : Nat} {x : Giv} {t t' : Cb} (h : AlB w W b m x t) (hC : CbAt W' b m t') (ho : Only (TouchP b m) W W') : AlB w W' b m x t' :=
  ⟨hC, h.X.only ho (by have h1 := h.hb; have h2 := h.hm; rintro (e | e) <;> omega), h.B.trans (ho.below h.B.size (by have h1 := h.hb; have h2 := h.hm; rintro k (e | e) <;> omega)), h.hb, h.hm⟩

set_option maxRecDepth 100000 in
set_option maxHeartbeats 8000000 in
theorem alone_yes (w : World) (x : Giv) (A : Option Addr) (cap : Nat) (l : List CAct) (h : x.can) (ha : ActsAt w A l) :
    Calls Try.prog 5 #[x.val, .slice A l.length cap] w fun r w' => r = .returned (.bool true) ∧ Below w.heap.size w w' := by
  have HA := Lib.hid ha; clear ha
  have H := Lib.hid h; clear h
  have hXd : ∀ W, Below w.heap.size w W → ActsAt W A l := fun W hW => ⟨HA.out.1, HA.out.2.1, fun h0 => by
    obtain ⟨bb, off, h1, h2, h3⟩ := HA.out.2.2 h0
    exact ⟨bb, off, h1, Nat.lt_of_lt_of_le h2 hW.size, fun i a hi j v hj => (hW.cell (p := ⟨bb, off + i * 11 + j, none⟩) h2).trans (h3 i a hi j v hj)⟩⟩
  have HM := Lib.hid (made_yes (w.alloc (.cells x.cells 23)) x A cap l H.out (hXd _ ((Below.refl _ w).alloc (Nat.le_refl _) _)))
  have hsame := run_same x.made l
  have hok := run_ok (Giv.made_ok H.out) l
  obtain ⟨s, hs⟩ : ∃ s, x.made.run l = s := ⟨_, rfl⟩
  rw [hs] at HM hsame hok
  have hnode : ((s.node : Nat) : Int) = x.node := by
    obtain ⟨h1, h2, h3, h4, h5, h6⟩ := H.out
    rw [hsame.1]
    show ((x.node.toNat : Nat) : Int) = x.node
    omega
  have hcores : ((s.cores : Nat) : Int) = x.cores := by
    obtain ⟨h1, h2, h3, h4, h5, h6⟩ := H.out
    rw [hsame.2.2]
    show ((x.cores.toNat : Nat) : Int) = x.cores
    omega
  have hc64 := hok.c2
  have HOK := Lib.hid hok
  obtain ⟨a, b0, c⟩ := x
  obtain rfl : (s.node : Int) = a := hnode
  obtain rfl : (s.cores : Int) = c := hcores
  have HXD := Lib.hid hXd
  clear hs hsame hok hXd HA
  simp only [Giv.val, Giv.cells] at HM ⊢
  go_enter Try.func5, Try.ntmps5
  go_wp2_with (go_at_call 7; refine (HM.out).mono ?_; rintro r w1 ⟨b, m, br, base, rfl, S1, B1⟩)
  have hAl : AlB w w1 b m ⟨s.node, b0, s.cores⟩ s := ⟨S1.S, (Blk.new w 23 _).below B1 (by simp), ((Below.refl _ w).alloc (Nat.le_refl _) _).trans (B1.mono (by simp)), by have := S1.n0b; simp at this; omega, by have := S1.n0m; simp at this; omega⟩
  have HAl := Lib.hid hAl
  have HS1 := Lib.hid S1
  have hho := holder_at w1 b m s S1.S
  clear hAl S1 B1
  cases hw : s.who with
  | some k =>
    have hkown := HOK.out.wh k hw
    have hkc := Cb.own_lt hkown
    rw [hw] at hho
    unfold holdV at hho
    have HHO := Lib.hid hho
    have HW := Lib.hid hw
    have X0 := HAl.out.X
    have x2 : w1.cell? ⟨w.heap.size, 2, none⟩ = some (.int .i64 (s.cores : Int)) := X0.cell 2
    have HX0 := Lib.hid X0
    clear hho hw hkown X0
    go_wp2_with (go_at_call 14; refine (HHO.out).mono ?_; rintro r w' ⟨rfl, rfl⟩)
    go_loopw [11] (fun i wr => ∃ j : Nat, j ≤ s.cores ∧ i = .int .i64 j ∧ AlB w wr b m ⟨s.node, b0, s.cores⟩ s) (fun i _ => s.cores - (intOf i).toNat)
    case atStart => exact ⟨0, Nat.zero_le _, rfl, HAl.out⟩
    case round =>
      obtain ⟨j, hj, rfl, hI⟩ := hrel
      have X1 := hI.X
      have x2 : wr.cell? ⟨w.heap.size, 2, none⟩ = some (.int .i64 (s.cores : Int)) := X1.cell 2
      have HI := Lib.hid hI
      clear X1 hI
      by_cases hjc : j < s.cores
      · have hel := elect_at wr b m s (j : Int) HI.out.C
        have hc : s.canElect (j : Int) = false := by unfold Cb.canElect; rw [HW.out]; simp
        rw [hc, elect_no hc] at hel
        have HEL := Lib.hid hel
        clear hel hc
        go_wp2_with (go_at_call 15; refine (HEL.out).mono ?_; rintro r w3 ⟨rfl, C3, O3⟩)
        go_roundw
        case rel => exact ⟨j + 1, by omega, by go_num, HI.out.touch C3 O3⟩
        case measure => simp [intOf]; omega
      · obtain rfl : j = s.cores := by omega
        have hB0 := HOK.out.blen
        have hge : decide (s.cores ≤ k) = false := by rw [decide_eq_false_iff_not]; omega
        go_wp2_with fail
        go_loopw [12] (fun n wr => ∃ (j : Nat) (t : Cb), n = .int .i64 j ∧ j + t.batch.length = s.batch.length ∧ t.who = some k ∧ t.cores = s.cores ∧ AlB w wr b m ⟨s.node, b0, s.cores⟩ t) (fun n _ => s.cores + 1 - (intOf n).toNat)
        case atStart => exact ⟨0, s, rfl, by omega, HW.out, rfl, HI.out⟩
        case round =>
          obtain ⟨j, t, rfl, hjb, htw, htc, hI⟩ := hrel
          have X1 := hI.X
          have x2 : wr.cell? ⟨w.heap.size, 2, none⟩ = some (.int .i64 (s.cores : Int)) := X1.cell 2
          have hjc : j ≤ s.cores := by omega
          have okt := hI.C.ok
          have hnx := next_at wr b m t hI.C
          obtain ⟨e1, e2, e3, e4, e5, e6, e7, e8, e9, hE, hE9⟩ := nextV_form2 t
          rw [hE] at hnx
          have hbl := hI.C.hb.choose_spec.1.lt
          have hml := hI.C.hm.lt
          have HI2 := Lib.hid hI
          cases hbt : t.batch with
          | nil =>
            rw [hbt] at hnx
            simp only [List.isEmpty_nil, Bool.not_true] at hnx
            have HNX := Lib.hid hnx
            have hrl := release_zero htw hbt
            have HRL := Lib.hid hrl
            have HTW2 := Lib.hid htw
            have hho2 : ∀ W, Below wr.heap.size wr W → Calls Try.prog 14 #[.pointer (some ⟨b, 0, none⟩)] W fun r w' => r = .returned (.tuple #[.int .i64 (k : Nat), .bool true]) ∧ W = w' := fun W hW => by
              have := holder_at W b m t (HI2.out.C.below hW)
              rw [HTW2.out] at this
              exact this
            have HHO2 := Lib.hid hho2
            have hrel2 : ∀ W, Below wr.heap.size wr W → Calls Try.prog 19 #[.pointer (some ⟨b, 0, none⟩), .int .i64 (k : Nat)] W fun r w' => r = .returned (.int .i64 0) ∧ CbAt w' b m (t.release (k : Nat)) ∧ Only (TouchP b m) W w' := fun W hW => by
              have := release_at W b m t (k : Nat) (HI2.out.C.below hW)
              rw [HRL.out] at this
              exact this
            have HREL2 := Lib.hid hrel2
            clear X1 hI hnx hrl htw htc hbt hE hE9 okt hjb hho2 hrel2
            go_wp2_with (first
              | (go_at_call 9; refine (HNX.out).mono ?_; rintro r w4 ⟨rfl, B4⟩)
              | (go_at_call 14; refine (HHO2.out _ (B4.alloc B4.size _)).mono ?_; rintro r w' ⟨rfl, rfl⟩)
              | (go_at_call 19; refine (HREL2.out _ (B4.alloc B4.size _)).mono ?_; rintro r w6 ⟨rfl, C6, O6⟩; have HAl6 := Lib.hid ((HI2.out.below (B4.alloc B4.size _)).touch C6 O6))
              | (go_at_call 8; refine (awake_any _).mono ?_; rintro r w7 ⟨rfl, B7⟩))
            go_ret
            exact ⟨rfl, HAl6.out.B.trans (B7.mono HAl6.out.B.size)⟩
          | cons i tt =>
            obtain ⟨g1, g2, g3, g4, g5, g6⟩ := deliver_cons okt (idx := (j : Int)) (by omega) hbt
            obtain rfl : e9 = (i : Int) := hE9 i tt hbt
            rw [hbt] at hnx hjb
            simp only [List.isEmpty_cons, Bool.not_false] at hnx
            rw [List.length_cons] at hjb
            have hi64 : i < 64 := by
              have h1 := Cb.own_lt (okt.bat_own (i := i) (by rw [hbt]; exact List.mem_cons_self))
              have h2 := okt.c2
              omega
            obtain ⟨d1, d2, d3⟩ := done_same (t.deliver (j : Int)) (i : Int)
            have HNX := Lib.hid hnx
            have HG1 := Lib.hid g1
            have HG5 := Lib.hid g5
            have HG6 := Lib.hid g6
            have HJB := Lib.hid hjb
            have HD1 := Lib.hid (d1.trans g2)
            have HD2 := Lib.hid (d2.trans (g3.trans htw))
            have HD3 := Lib.hid (d3.trans (g4.trans htc))
            clear X1 hI hnx htw htc hbt hE hE9 okt hjb g1 g2 g3 g4 g5 g6 d1 d2 d3
            go_wp2_with (first
              | (go_at_call 9; refine (HNX.out).mono ?_; rintro r w4 ⟨rfl, B4⟩; have HI4 := Lib.hid (HI2.out.below (B4.alloc B4.size (.cells #[.int .i64 e1, .int .i64 e2, .int .i64 e3, .int .i64 e4, .int .i64 e5, .int .i64 e6, .int .i64 e7, .int .i64 e8, .int .i64 (i : Int)] 37))); have hz4 := B4.size)
              | (go_at_call 16; refine (deliver_at _ b m t (j : Int) HI4.out.C).mono ?_; rw [HG1.out]; rintro r w5 ⟨rfl, C5, O5⟩; have E5 : Blk w5 w4.heap.size 37 #[.int .i64 e1, .int .i64 e2, .int .i64 e3, .int .i64 e4, .int .i64 e5, .int .i64 e6, .int .i64 e7, .int .i64 e8, .int .i64 (i : Int)] := (Blk.new w4 37 _).only O5 (by rintro (e | e) <;> omega); have q8 := E5.cell 8; have le5 := E5.lt; have HI5 := Lib.hid (HI4.out.touch C5 O5); clear C5 O5 E5)
              | (go_at_call 17; refine (index_at w5 b m _ (i : Int) HI5.out.C (by omega) (by omega)).mono ?_; rw [HG5.out]; rintro r w' ⟨rfl, rfl⟩)
              | (go_at_call 18; refine (done_at w5 b m _ (i : Int) HI5.out.C (by omega) (by omega)).mono ?_; rw [HG6.out]; rintro r w6 ⟨rfl, C6, O6⟩))
            go_roundw
            case rel =>
              refine ⟨j + 1, _, by go_num, ?_, HD2.out, HD3.out, HI5.out.touch C6 O6⟩
              rw [HD1.out]
              have := HJB.out
              omega
            case measure => simp [intOf]; omega
  | none =>
    rw [hw] at hho
    unfold holdV at hho
    have HHO := Lib.hid hho
    have HW := Lib.hid hw
    have X0 := HAl.out.X
    have x2 : w1.cell? ⟨w.heap.size, 2, none⟩ = some (.int .i64 (s.cores : Int)) := X0.cell 2
    have x0 : w1.cell? ⟨w.heap.size, 0, none⟩ = some (.int .i64 (s.node : Int)) := X0.cell 0
    have HX0 := Lib.hid X0
    clear hho hw X0
    by_cases hnc : s.node < s.cores
    · have hel := elect_at w1 b m s (s.node : Int) HAl.out.C
      have hown : s.own (s.node : Int) = true := Cb.own_of hnc (Nat.mod_eq_of_lt HOK.out.n1)
      have hcan : s.canElect (s.node : Int) = !(fresh s.l).isEmpty := by unfold Cb.canElect; rw [hown, HW.out]; simp
      cases hf : fresh s.l with
      | nil =>
        have hc : s.canElect (s.node : Int) = false := by rw [hcan, hf]; rfl
        rw [hc, elect_no hc] at hel
        have HEL := Lib.hid hel
        have hnt := none_told HOK.out HW.out hf
        obtain ⟨v, R⟩ := HS1.out.R
        obtain ⟨va, vc, rfl⟩ := own_form R.hv
        have HR := Lib.hid R
        have h64 := HOK.out.len64
        have HNT := Lib.hid hnt
        clear hel hc hcan hf R hnt hown
        go_wp2_with (first
          | (go_at_call 14; refine (HHO.out).mono ?_; rintro r w' ⟨rfl, rfl⟩)
          | (go_at_call 15; refine (HEL.out).mono ?_; rintro r w3 ⟨rfl, C3, O3⟩; have R3 := HR.out.kept HAl.out.C O3; have T3 := told_at w3.drew base br _ s (R3.below (Below.refl _ w3).drew) h64; rw [← HNT.out] at T3; have HT3 := Lib.hid T3; obtain ⟨q3, hb3, _⟩ := R3.hb; have y3 : w3.cell? ⟨br, 3, none⟩ = some (.slice va s.l.length vc) := hb3.cell 3; have lr3 := hb3.lt; have HAl3 := Lib.hid (HAl.out.touch C3 O3); clear R3 T3 hb3)
          | (refine wp_region_stG 9 (by kernel_rfl) (by kernel_rfl) ?_; simp only [List.take_succ_cons, List.take_zero, List.drop_succ_cons, List.drop_zero]; (repeat (first | (refine StG.skip rfl rfl ?_) | (refine StG.skipU rfl (by simp only [Act.put, List.setIfInBounds_toArray, List.set_cons_zero, List.set_cons_succ]; rfl) ?_) | (refine StG.want rfl (fun K hK => ?_); go_simp; (try go_bits); refine hK _ ?_; clear hK K) | (refine StG.want rfl (fun K hK => ?_); go_simp; refine ⟨_, (HT3.out).mono (fun _ _ h => ⟨h.1, h.2.symm⟩), hK _ ?_⟩; clear hK K))); refine StG.nil ?_)
          | (go_at_call 8; refine (awake_any _).mono ?_; rintro r w5 ⟨rfl, B5⟩))
        go_ret
        exact ⟨rfl, HAl3.out.B.drew.trans (B5.mono (by have := HAl3.out.B.size; simpa using this))⟩
      | cons f0 ft =>
        have hc : s.canElect (s.node : Int) = true := by rw [hcan, hf]; rfl
        have hel2 : s.elect (s.node : Int) = { s with l := s.l.map Sl.take, who := some s.node, batch := fresh s.l } := by unfold Cb.elect; rw [hc, Int.toNat_natCast]; rfl
        have hokT := Cb.elect_ok HOK.out (s.node : Int)
        rw [hc] at hel
        obtain ⟨T, hT⟩ : ∃ T, s.elect (s.node : Int) = T := ⟨_, rfl⟩
        have hTw : T.who = some s.node := by rw [← hT, hel2]
        have hTc : T.cores = s.cores := by rw [← hT, hel2]
        rw [hT] at hel hokT
        have hB0 := hokT.blen
        rw [hTc] at hB0
        have HEL := Lib.hid hel
        have HTW := Lib.hid hTw
        have HTC := Lib.hid hTc
        have hge : decide (s.cores ≤ s.node) = false := by rw [decide_eq_false_iff_not]; omega
        clear hel hc hcan hf hown hel2 hokT hT hTw hTc
        go_wp2_with (first
          | (go_at_call 14; refine (HHO.out).mono ?_; rintro r w' ⟨rfl, rfl⟩)
          | (go_at_call 15; refine (HEL.out).mono ?_; rintro r w3 ⟨rfl, C3, O3⟩; have hI3 := HAl.out.touch C3 O3; have x23 : w3.cell? ⟨w.heap.size, 2, none⟩ = some (.int .i64 (s.cores : Int)) := hI3.X.cell 2; have x03 : w3.cell? ⟨w.heap.size, 0, none⟩ = some (.int .i64 (s.node : Int)) := hI3.X.cell 0; have HI3 := Lib.hid hI3; clear hI3))
        go_loopw [12] (fun n wr => ∃ (j : Nat) (t : Cb), n = .int .i64 j ∧ j + t.batch.length = T.batch.length ∧ t.who = some s.node ∧ t.cores = s.cores ∧ AlB w wr b m ⟨s.node, b0, s.cores⟩ t) (fun n _ => s.cores + 1 - (intOf n).toNat)
        case atStart => exact ⟨0, T, rfl, by omega, HTW.out, HTC.out, HI3.out⟩
        case round =>
          obtain ⟨j, t, rfl, hjb, htw, htc, hI⟩ := hrel
          have X1 := hI.X
          have x2 : wr.cell? ⟨w.heap.size, 2, none⟩ = some (.int .i64 (s.cores : Int)) := X1.cell 2
          have hjc : j ≤ s.cores := by omega
          have okt := hI.C.ok
          have hnx := next_at wr b m t hI.C
          obtain ⟨e1, e2, e3, e4, e5, e6, e7, e8, e9, hE, hE9⟩ := nextV_form2 t
          rw [hE] at hnx
          have hbl := hI.C.hb.choose_spec.1.lt
          have hml := hI.C.hm.lt
          have HI2 := Lib.hid hI
          cases hbt : t.batch with
          | nil =>
            rw [hbt] at hnx
            simp only [List.isEmpty_nil, Bool.not_true] at hnx
            have HNX := Lib.hid hnx
            have hrl := release_zero htw hbt
            have HRL := Lib.hid hrl
            have HTW2 := Lib.hid htw
            have hho2 : ∀ W, Below wr.heap.size wr W → Calls Try.prog 14 #[.pointer (some ⟨b, 0, none⟩)] W fun r w' => r = .returned (.tuple #[.int .i64 (s.node : Nat), .bool true]) ∧ W = w' := fun W hW => by
              have := holder_at W b m t (HI2.out.C.below hW)
              rw [HTW2.out] at this
              exact this
            have HHO2 := Lib.hid hho2
            have hrel2 : ∀ W, Below wr.heap.size wr W → Calls Try.prog 19 #[.pointer (some ⟨b, 0, none⟩), .int .i64 (s.node : Nat)] W fun r w' => r = .returned (.int .i64 0) ∧ CbAt w' b m (t.release (s.node : Nat)) ∧ Only (TouchP b m) W w' := fun W hW => by
              have := release_at W b m t (s.node : Nat) (HI2.out.C.below hW)
              rw [HRL.out] at this
              exact this
            have HREL2 := Lib.hid hrel2
            clear X1 hI hnx hrl htw htc hbt hE hE9 okt hjb hho2 hrel2
            go_wp2_with (first
              | (go_at_call 9; refine (HNX.out).mono ?_; rintro r w4 ⟨rfl, B4⟩)
              | (go_at_call 14; refine (HHO2.out _ (B4.alloc B4.size _)).mono ?_; rintro r w' ⟨rfl, rfl⟩)
              | (go_at_call 19; refine (HREL2.out _ (B4.alloc B4.size _)).mono ?_; rintro r w6 ⟨rfl, C6, O6⟩; have HAl6 := Lib.hid ((HI2.out.below (B4.alloc B4.size _)).touch C6 O6))
              | (go_at_call 8; refine (awake_any _).mono ?_; rintro r w7 ⟨rfl, B7⟩))
            go_ret
            exact ⟨rfl, HAl6.out.B.trans (B7.mono HAl6.out.B.size)⟩
          | cons i tt =>
            obtain ⟨g1, g2, g3, g4, g5, g6⟩ := deliver_cons okt (idx := (j : Int)) (by omega) hbt
            obtain rfl : e9 = (i : Int) := hE9 i tt hbt
            rw [hbt] at hnx hjb
            simp only [List.isEmpty_cons, Bool.not_false] at hnx
            rw [List.length_cons] at hjb
            have hi64 : i < 64 := by
              have h1 := Cb.own_lt (okt.bat_own (i := i) (by rw [hbt]; exact List.mem_cons_self))
              have h2 := okt.c2
              omega
            obtain ⟨d1, d2, d3⟩ := done_same (t.deliver (j : Int)) (i : Int)
            have HNX := Lib.hid hnx
            have HG1 := Lib.hid g1
            have HG5 := Lib.hid g5
            have HG6 := Lib.hid g6
            have HJB := Lib.hid hjb
            have HD1 := Lib.hid (d1.trans g2)
            have HD2 := Lib.hid (d2.trans (g3.trans htw))
            have HD3 := Lib.hid (d3.trans (g4.trans htc))
            clear X1 hI hnx htw htc hbt hE hE9 okt hjb g1 g2 g3 g4 g5 g6 d1 d2 d3
            go_wp2_with (first
              | (go_at_call 9; refine (HNX.out).mono ?_; rintro r w4 ⟨rfl, B4⟩; have HI4 := Lib.hid (HI2.out.below (B4.alloc B4.size (.cells #[.int .i64 e1, .int .i64 e2, .int .i64 e3, .int .i64 e4, .int .i64 e5, .int .i64 e6, .int .i64 e7, .int .i64 e8, .int .i64 (i : Int)] 37))); have hz4 := B4.size)
              | (go_at_call 16; refine (deliver_at _ b m t (j : Int) HI4.out.C).mono ?_; rw [HG1.out]; rintro r w5 ⟨rfl, C5, O5⟩; have E5 : Blk w5 w4.heap.size 37 #[.int .i64 e1, .int .i64 e2, .int .i64 e3, .int .i64 e4, .int .i64 e5, .int .i64 e6, .int .i64 e7, .int .i64 e8, .int .i64 (i : Int)] := (Blk.new w4 37 _).only O5 (by rintro (e | e) <;> omega); have q8 := E5.cell 8; have le5 := E5.lt; have HI5 := Lib.hid (HI4.out.touch C5 O5); clear C5 O5 E5)
              | (go_at_call 17; refine (index_at w5 b m _ (i : Int) HI5.out.C (by omega) (by omega)).mono ?_; rw [HG5.out]; rintro r w' ⟨rfl, rfl⟩)
              | (go_at_call 18; refine (done_at w5 b m _ (i : Int) HI5.out.C (by omega) (by omega)).mono ?_; rw [HG6.out]; rintro r w6 ⟨rfl, C6, O6⟩))
            go_roundw
            case rel =>
              refine ⟨j + 1, _, by go_num, ?_, HD2.out, HD3.out, HI5.out.touch C6 O6⟩
              rw [HD1.out]
              have := HJB.out
              omega
            case measure => simp [intOf]; omega
    · have hnc' : decide (s.node < s.cores) = false := by simpa using hnc
      have hge : s.cores ≤ s.node := by omega
      go_wp2_with (first
        | (go_at_call 14; refine (HHO.out).mono ?_; rintro r w' ⟨rfl, rfl⟩)
        | (go_at_call 8; refine (awake_any _).mono ?_; rintro r w5 ⟨rfl, B5⟩))
      go_ret
      exact ⟨rfl, HAl.out.B.trans (B5.mono HAl.out.B.size)⟩
theorem alone (w : World) (x : Giv) (A : Option Addr) (cap : Nat) (l : List CAct) (ha : ActsAt w A l) :
    Calls Try.prog 5 #[x.val, .slice A l.length cap] w fun r w' => r = .returned (.bool true) ∧ Below w.heap.size w w' := by
  by_cases h : x.can
  · exact alone_yes w x A cap l h ha
  · exact alone_no w x A _ cap h
end Go.Proofs.Ytaibhhppdmncfaa
