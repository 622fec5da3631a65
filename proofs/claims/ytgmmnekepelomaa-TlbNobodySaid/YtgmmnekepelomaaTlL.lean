/- Tlb: the reference's Fill; both in step. -/
import Derived.Test.YtgmmnekepelomaaTlK
import Derived.Deep.RegionLaw
namespace Go.Proofs.Ytgmmnekepelomaa
open Go.RowKit
attribute [local go_sem ↓] ld30 st30 bs38
attribute [local go_sem] run_ld30 run_st30 tr_ones tr_size tr_take tr_extract tr_put tr_put' tr_len run_bs38

theorem rDropAt_st (w : World) (base b : Nat) (v : Value) (s : Tl) (i : Int) (h : RefAt w base b v s) (hbase : base ≤ w.heap.size) : Calls Try.prog 24 #[.pointer (some ⟨b, 0, none⟩), .int .i64 i] w fun r w' =>
    r = .returned (findV (s.at_ i)) ∧ ∃ v', RefAt w' base b v' (s.dropAt i) ∧ Only (· = b) w w' := by
  by_cases hi : i < 0 ∨ (s.l.length : Int) ≤ i
  · obtain ⟨e1, e2⟩ := dropAt_out hi
    rw [e1, e2]
    obtain ⟨va, vc, rfl⟩ := own_form h.hv
    refine (rDropAt_no w b s.l.length vc va _ i h.hb hi).mono ?_
    rintro r w' ⟨rfl, B⟩
    exact ⟨rfl, _, h.below B, Only.of_below B⟩
  · obtain ⟨k, rfl⟩ := Int.eq_ofNat_of_zero_le (show 0 ≤ i by omega)
    have hk : k < s.l.length := by omega
    refine (rDropAt_yes w base b k v s h hbase hk).mono ?_
    rintro r w' ⟨rfl, v', T, O⟩
    unfold Tl.at_ Tl.dropAt
    rw [if_pos (by omega), if_pos (by omega), Int.toNat_natCast, List.getElem?_eq_getElem hk]
    exact ⟨rfl, v', T, O⟩
theorem room_tail (s : Tl) : (if s.l.length = s.size then s.dropAt 0 else s) = s.room := by
  unfold Tl.room Tl.dropAt
  split
  · rw [if_pos (by omega)]
    simp
  · rfl
theorem room_ok {s : Tl} (ok : s.ok) : s.room.ok ∧ s.room.l.length < s.room.size ∧ s.room.size = s.size := by
  unfold Tl.room
  have := ok.s1
  have := ok.n
  split
  · refine ⟨⟨ok.s1, ok.s2, ?_, fun x hx => ok.m x (List.mem_of_mem_tail hx)⟩, ?_, rfl⟩
    · simp; omega
    · simp; omega
  · exact ⟨ok, by omega, rfl⟩

theorem rFill_no (w : World) (b : Nat) (x : Tr) (hx : x.may = false) : Calls Try.prog 22 #[.pointer (some ⟨b, 0, none⟩), x.val] w fun r w' => r = .returned (.int .i64 1) ∧ Below w.heap.size w w' := by
  have HM := Lib.hid (fun W => rMay_f x W)
  have HX := Lib.hid hx
  clear hx
  go_enter Try.func22, Try.ntmps22
  go_wp2_with (go_at_call 16; refine (HM.out _).mono ?_; rintro r w1 ⟨rfl, B1⟩; rw [HX.out])
  go_ret
  exact ⟨rfl, ((Below.refl _ _).alloc (Nat.le_refl _) _).trans (B1.mono (by simp))⟩

set_option maxRecDepth 100000 in
set_option maxHeartbeats 4000000 in
theorem rFill_yes (w : World) (base b : Nat) (v : Value) (s : Tl) (x : Tr) (h : RefAt w base b v s) (hbase : base ≤ w.heap.size) (hx : x.may = true) : Calls Try.prog 22 #[.pointer (some ⟨b, 0, none⟩), x.val] w fun r w' =>
    r = .returned (.int .i64 0) ∧ ∃ v', RefAt w' base b v' (s.fill x) ∧ Only (fun k => k = b ∨ base ≤ k) w w' := by
  obtain ⟨i0, hi0, hz0, hz1, hz2⟩ := info_parts info30
  have hb := h.hb.lt
  have HM := Lib.hid (fun W => rMay_f x W)
  have HX := Lib.hid hx
  have HT := Lib.hid h
  clear hx h
  go_enter Try.func22, Try.ntmps22
  go_wp2_with (go_at_call 16; refine (HM.out _).mono ?_; rintro r w1 ⟨rfl, B1⟩; rw [HX.out])
  have B1' : Below w.heap.size w w1 := ((Below.refl _ _).alloc (Nat.le_refl _) _).trans (B1.mono (by simp))
  have bx1 : Blk w1 w.heap.size 30 x.cells.toArray := (Blk.new w 30 x.cells.toArray).below B1 (by simp)
  have k1 : w1.cell? ⟨w.heap.size, 0, none⟩ = some (.int .i64 x.p) := bx1.cell 0
  have r1 := bx1.rowOf
  have r2 := bx1.plain
  have l1 := bx1.lt
  have HT1 := Lib.hid (HT.out.below B1')
  have HB1 := Lib.hid B1'
  have BX1 := Lib.hid bx1
  obtain ⟨sp, hsp⟩ : ∃ sp, x.stop = sp := ⟨_, rfl⟩
  have hend : ∀ W, Calls Try.prog 13 #[x.val] W fun r w' => r = .returned (.int .i64 sp) ∧ Below W.heap.size W w' := fun W => by rw [← hsp]; exact rEnd_f x W HX.out
  have HE := Lib.hid hend
  have HSP := Lib.hid hsp
  clear B1 B1' bx1 hend hsp
  go_region_with (first
    | (go_at_call 13; refine (HE.out _).mono ?_; rintro r w5 ⟨rfl, B5⟩; have e5 : w5.cell? ⟨w.heap.size, 0, none⟩ = some (.int .i64 x.p) := (B5.cell (p := ⟨w.heap.size, 0, none⟩) l1).trans k1)
    | (go_at_call 23; refine (rDrop_st _ base b _ s _ _ (HT1.out.below ((Below.refl _ _).drew.trans B5)) (by have := B5.size; simp at this; omega)).mono ?_; rintro r w6 ⟨rfl, v6, T6, O6⟩))
  all_goals
    have B5' : Below w1.heap.size w1 w5 := (Below.refl _ _).drew.trans B5
    have hO6 : Only (· = b) w w6 := (Only.of_below (HB1.out.trans (B5'.mono HB1.out.size))).trans O6
    have bx6 : Blk w6 w.heap.size 30 x.cells.toArray := (BX1.out.below B5' l1).only O6 (by omega)
    obtain ⟨s1, hs1⟩ : ∃ s1, s1 = s.drop x.p sp := ⟨_, rfl⟩
    have hs1z : s1.size = s.size := by rw [hs1]; rfl
    have hf1 : s.fill x = { s with l := s1.room.l ++ [x] } := by unfold Tl.fill; rw [if_pos HX.out, HSP.out, ← hs1]
    rw [← hs1] at T6 ⊢
    have hle := T6.ok.n
    rw [hs1z] at hle
    obtain ⟨va, vc, rfl⟩ := own_form T6.hv
    have c0 : w6.cell? ⟨b, 0, none⟩ = some (.int .i64 s1.size) := T6.hb.cell 0
    rw [hs1z] at c0
    have c1 : w6.cell? ⟨b, 1, none⟩ = some (.slice va s1.l.length vc) := T6.hb.cell 1
    have l6 := T6.hb.lt
    have hbase6 : base ≤ w6.heap.size := Nat.le_trans hbase hO6.size
    have HT6 := Lib.hid T6
    have HO6 := Lib.hid hO6
    have HBX := Lib.hid bx6
    have HS1 := Lib.hid hs1
    have HS1Z := Lib.hid hs1z
    have HF1 := Lib.hid hf1
    clear k1 r1 r2 B5 e5 O6 B5' hs1 hs1z hf1 T6 hO6 bx6
    by_cases hfull : s1.l.length = s.size
    · have hb1 : decide (s.size ≤ s1.l.length) = true := by simp; omega
      have HFULL := Lib.hid hfull
      clear hfull
      go_wp2_with fail
      go_quiet (fail)
      go_wp2_with (go_at_call 24; refine (rDropAt_st _ base b _ s1 0 ((HT6.out.below (below_drewN (Below.refl _ _) _))) (by simpa using hbase6)).mono ?_; rintro r w7 ⟨rfl, v7, T7, O7⟩)
      obtain ⟨s2, hs2⟩ : ∃ s2, s2 = s1.room := ⟨_, rfl⟩
      obtain ⟨hr1, hr2, hr3⟩ := room_ok (s := s1) HT6.out.ok
      have hdr : s1.dropAt 0 = s2 := by rw [hs2, ← room_tail, if_pos (by rw [HS1Z.out]; exact HFULL.out)]
      rw [hdr] at T7
      have hlt2 : s2.l.length < s.size := by rw [hs2, ← HS1Z.out, ← hr3]; exact hr2
      have hsz2 : s2.size = s.size := by rw [hs2, hr3, HS1Z.out]
      have hE2 : s.fill x = { s with l := s2.l ++ [x] } := by rw [HF1.out, hs2]
      obtain ⟨W, hW⟩ : ∃ W, W = w7 := ⟨_, rfl⟩
      rw [← hW] at T7 O7 ⊢
      have RW := T7
      have OW : Only (fun k => k = b ∨ base ≤ k) w W := (HO6.out.trans ((Only.of_below (below_drewN (Below.refl _ _) _)).trans O7)).mono (fun k hk => .inl hk)
      have BW : Blk W w.heap.size 30 x.cells.toArray := (HBX.out.drewN _).only O7 (by omega)
      have hbW0 : base ≤ W.heap.size := Nat.le_trans hbase OW.size
      clear T7 O7 hdr hs2 hr1 hr2 hr3 hW c0 c1
      obtain ⟨a2, c2, rfl⟩ := own_form RW.hv
      have z1 : W.cell? ⟨b, 1, none⟩ = some (.slice a2 s2.l.length c2) := RW.hb.cell 1
      have z2 : W.frozen? ⟨b, 1, none⟩ = false := RW.hb.frozen 1
      have z3 := BW.rowOf
      have z4 := BW.plain
      have lW := RW.hb.lt
      have lB := BW.lt
      have hne := own_blk_ne RW.hv RW.hb (by decide)
      have hge := own_ge RW.hv
      have n64 : s2.l.length < 64 := by have := RW.ok.s2; omega
      obtain ⟨n2, hn2⟩ : ∃ n2, s2.l.length = n2 := ⟨_, rfl⟩
      have hown : W.ownsRow base 30 4 (.slice a2 n2 c2) n2 (flat s2.l) := by rw [← hn2]; exact RW.hv
      have hbW : Blk W b 40 #[.int .i64 s2.size, .slice a2 n2 c2] := by rw [← hn2]; exact RW.hb
      rw [hn2] at z1 n64 hne hge
      have hOK : ({ s with l := s2.l ++ [x] } : Tl).ok := by
        refine ⟨HT.out.ok.s1, HT.out.ok.s2, ?_, fun y hy => ?_⟩
        · show (s2.l ++ [x]).length ≤ s.size
          rw [List.length_append, List.length_singleton]; omega
        · rcases List.mem_append.1 hy with hy | hy
          · exact RW.ok.m y hy
          · obtain rfl : y = x := by simpa using hy
            exact HX.out
      have hs2z : s2.size = s.size := hsz2
      have HN2 := Lib.hid hn2
      have HOWN := Lib.hid hown
      have HBW := Lib.hid hbW
      have HOKK := Lib.hid hOK
      have HZ2 := Lib.hid hs2z
      have HE2 := Lib.hid hE2
      have HNE := Lib.hid hne
      have HGE := Lib.hid hge
      have HOW := Lib.hid OW
      clear RW BW hn2 hown hbW hOK hs2z hE2 hsz2 hne hge OW hlt2
      go_region_law
        ((refine step_append_lies _ (by rfl) _ _ _ (by rfl) base 30 i0 _ 4 32 Try.underlying38 hi0 hz0 hz1 hz2 rfl (by omega) (.slice a2 n2 c2) n2 (flat s2.l) (by rfl) (HOWN.out.alloc _)
            ⟨W.heap.size, 0, none⟩ 1 1 x.cells (by rfl) (by rfl) (World.news_of_block (t := 30) (fr := (0, 0)) (heap_alloc_new W _)) (ones_mem x)
            (by omega) (by simp only [maxLen]; omega) (by omega) (by simp; omega) (W.heap.size + 1) (by simp) ?_; intro gg cap w9 hown9 hgrow hat hlt9;
            have hbx : Blk w9 b 40 #[.int .i64 s2.size, .slice a2 n2 c2] := ((HBW.out.alloc (.cells x.cells.toArray 30)).drewN 1).grown hgrow (Ne.symm HNE.out);
            have y2 : w9.cell? ⟨b, 1, none⟩ = some (.slice a2 n2 c2) := hbx.cell 1;
            have y3 : w9.frozen? ⟨b, 1, none⟩ = false := hbx.frozen 1))
      all_goals
        go_wp2_with fail
        go_ret
        have hO9 : Only (fun k => k = b ∨ base ≤ k) w w9 := ((HOW.out.alloc (.cells x.cells.toArray 30)).drewN 1).grown hgrow (fun k hk => .inl (.inr (HGE.out k hk)))
        refine ⟨rfl, .slice (some ⟨gg, 0, none⟩) (n2 + 1) cap, ?_, hO9.setCell (p := ⟨b, 1, none⟩) (.inl (.inl rfl)) _⟩
        rw [HE2.out]
        refine ⟨HOKK.out, ?_, ?_⟩
        · have := hbx.set_ 1 (.slice (some ⟨gg, 0, none⟩) (n2 + 1) cap)
          rw [HZ2.out] at this
          exact this
        · have hl : (s2.l ++ [x]).length = n2 + 1 := by rw [List.length_append, HN2.out]; rfl
          show World.ownsRow _ base 30 4 _ (s2.l ++ [x]).length (flat (s2.l ++ [x]))
          rw [hl, flat_append, flat_one]
          refine own_only (S := (· = b)) hown9 ((Only.refl (· = b) w9).setCell (p := ⟨b, 1, none⟩) (.inl rfl) _) (fun j hj e => ?_)
          have hj' : gg = j := by simpa [Value.ownBlock] using hj
          subst hj'
          subst e
          rcases hat with hh | hh
          · exact HNE.out hh
          · omega
    · have hb1 : decide (s.size ≤ s1.l.length) = false := by simp; omega
      go_wp2_with fail
      go_quiet (fail)
      go_wp2_with fail
      obtain ⟨s2, hs2⟩ : ∃ s2, s2 = s1.room := ⟨_, rfl⟩
      obtain ⟨hr1, hr2, hr3⟩ := room_ok (s := s1) HT6.out.ok
      have hdr : s2 = s1 := by rw [hs2]; unfold Tl.room; rw [if_neg (by rw [HS1Z.out]; exact hfull)]
      have hlt2 : s2.l.length < s.size := by rw [hs2, ← HS1Z.out, ← hr3]; exact hr2
      have hsz2 : s2.size = s.size := by rw [hs2, hr3, HS1Z.out]
      have hE2 : s.fill x = { s with l := s2.l ++ [x] } := by rw [HF1.out, hs2]
      obtain ⟨W, hW⟩ : ∃ W, W = w6.drewN nq := ⟨_, rfl⟩
      rw [← hW]
      obtain ⟨vv, hvv⟩ : ∃ vv, vv = Value.slice va s1.l.length vc := ⟨_, rfl⟩
      have RW : RefAt W base b vv s2 := by rw [hW, hdr, hvv]; exact HT6.out.below (below_drewN (Below.refl _ _) _)
      have OW : Only (fun k => k = b ∨ base ≤ k) w W := by rw [hW]; exact (HO6.out.drewN _).mono (fun k hk => .inl hk)
      have BW : Blk W w.heap.size 30 x.cells.toArray := by rw [hW]; exact HBX.out.drewN _
      have hbW0 : base ≤ W.heap.size := Nat.le_trans hbase OW.size
      clear hdr hs2 hr1 hr2 hr3 hW c0 c1 hvv
      obtain ⟨a2, c2, rfl⟩ := own_form RW.hv
      have z1 : W.cell? ⟨b, 1, none⟩ = some (.slice a2 s2.l.length c2) := RW.hb.cell 1
      have z2 : W.frozen? ⟨b, 1, none⟩ = false := RW.hb.frozen 1
      have z3 := BW.rowOf
      have z4 := BW.plain
      have lW := RW.hb.lt
      have lB := BW.lt
      have hne := own_blk_ne RW.hv RW.hb (by decide)
      have hge := own_ge RW.hv
      have n64 : s2.l.length < 64 := by have := RW.ok.s2; omega
      obtain ⟨n2, hn2⟩ : ∃ n2, s2.l.length = n2 := ⟨_, rfl⟩
      have hown : W.ownsRow base 30 4 (.slice a2 n2 c2) n2 (flat s2.l) := by rw [← hn2]; exact RW.hv
      have hbW : Blk W b 40 #[.int .i64 s2.size, .slice a2 n2 c2] := by rw [← hn2]; exact RW.hb
      rw [hn2] at z1 n64 hne hge
      have hOK : ({ s with l := s2.l ++ [x] } : Tl).ok := by
        refine ⟨HT.out.ok.s1, HT.out.ok.s2, ?_, fun y hy => ?_⟩
        · show (s2.l ++ [x]).length ≤ s.size
          rw [List.length_append, List.length_singleton]; omega
        · rcases List.mem_append.1 hy with hy | hy
          · exact RW.ok.m y hy
          · obtain rfl : y = x := by simpa using hy
            exact HX.out
      have hs2z : s2.size = s.size := hsz2
      have HN2 := Lib.hid hn2
      have HOWN := Lib.hid hown
      have HBW := Lib.hid hbW
      have HOKK := Lib.hid hOK
      have HZ2 := Lib.hid hs2z
      have HE2 := Lib.hid hE2
      have HNE := Lib.hid hne
      have HGE := Lib.hid hge
      have HOW := Lib.hid OW
      clear RW BW hn2 hown hbW hOK hs2z hE2 hsz2 hne hge OW hlt2
      go_region_law
        ((refine step_append_lies _ (by rfl) _ _ _ (by rfl) base 30 i0 _ 4 32 Try.underlying38 hi0 hz0 hz1 hz2 rfl (by omega) (.slice a2 n2 c2) n2 (flat s2.l) (by rfl) (HOWN.out.alloc _)
            ⟨W.heap.size, 0, none⟩ 1 1 x.cells (by rfl) (by rfl) (World.news_of_block (t := 30) (fr := (0, 0)) (heap_alloc_new W _)) (ones_mem x)
            (by omega) (by simp only [maxLen]; omega) (by omega) (by simp; omega) (W.heap.size + 1) (by simp) ?_; intro gg cap w9 hown9 hgrow hat hlt9;
            have hbx : Blk w9 b 40 #[.int .i64 s2.size, .slice a2 n2 c2] := ((HBW.out.alloc (.cells x.cells.toArray 30)).drewN 1).grown hgrow (Ne.symm HNE.out);
            have y2 : w9.cell? ⟨b, 1, none⟩ = some (.slice a2 n2 c2) := hbx.cell 1;
            have y3 : w9.frozen? ⟨b, 1, none⟩ = false := hbx.frozen 1))
      all_goals
        go_wp2_with fail
        go_ret
        have hO9 : Only (fun k => k = b ∨ base ≤ k) w w9 := ((HOW.out.alloc (.cells x.cells.toArray 30)).drewN 1).grown hgrow (fun k hk => .inl (.inr (HGE.out k hk)))
        refine ⟨rfl, .slice (some ⟨gg, 0, none⟩) (n2 + 1) cap, ?_, hO9.setCell (p := ⟨b, 1, none⟩) (.inl (.inl rfl)) _⟩
        rw [HE2.out]
        refine ⟨HOKK.out, ?_, ?_⟩
        · have := hbx.set_ 1 (.slice (some ⟨gg, 0, none⟩) (n2 + 1) cap)
          rw [HZ2.out] at this
          exact this
        · have hl : (s2.l ++ [x]).length = n2 + 1 := by rw [List.length_append, HN2.out]; rfl
          show World.ownsRow _ base 30 4 _ (s2.l ++ [x]).length (flat (s2.l ++ [x]))
          rw [hl, flat_append, flat_one]
          refine own_only (S := (· = b)) hown9 ((Only.refl (· = b) w9).setCell (p := ⟨b, 1, none⟩) (.inl rfl) _) (fun j hj e => ?_)
          have hj' : gg = j := by simpa [Value.ownBlock] using hj
          subst hj'
          subst e
          rcases hat with hh | hh
          · exact HNE.out hh
          · omega

theorem rFill_st (w : World) (base b : Nat) (v : Value) (s : Tl) (x : Tr) (h : RefAt w base b v s) (hbase : base ≤ w.heap.size) : Calls Try.prog 22 #[.pointer (some ⟨b, 0, none⟩), x.val] w fun r w' =>
    r = .returned (.int .i64 (if x.may then 0 else 1)) ∧ ∃ v', RefAt w' base b v' (s.fill x) ∧ Only (fun k => k = b ∨ base ≤ k) w w' := by
  cases hx : x.may
  · refine (rFill_no w b x hx).mono ?_
    rintro r w' ⟨rfl, B⟩
    unfold Tl.fill
    rw [hx]
    exact ⟨rfl, v, h.below B, Only.of_below B⟩
  · exact rFill_yes w base b v s x h hbase hx
end Go.Proofs.Ytgmmnekepelomaa
