/- Combine: the program's Post, Deliver, Done, Release. -/
import Derived.Test.YtaibhhppdmncfaaCbE
namespace Go.Proofs.Ytaibhhppdmncfaa
open Go.RowKit Go.Maps

abbrev TouchP (b m : Nat) : Nat → Prop := fun k => k = b ∨ k = m
theorem slotG_ins {l : List Sl} {x : Sl} (hs : Srt l) (hn : ∀ y ∈ l, y.core ≠ x.core) : slotG (ins x l) = fun j => if j = x.core then some x.val else slotG l j := by
  funext j
  unfold slotG
  rw [slotAt_ins hs hn]
  split <;> rfl
theorem CbAt.mapped {w w' : World} {b m : Nat} {s : Cb} {l' : List Sl} (h : CbAt w b m s) (hg : w.grownBy w' (some m)) (hm' : MapAt Try.prog 3 w' m (slotG l')) (ok' : Cb.ok { s with l := l' }) : CbAt w' b m { s with l := l' } := by
  have hne := h.ne
  obtain ⟨ok, ⟨q, hb, hq⟩, hm⟩ := h
  have ho : Only (· = m) w w' := (Only.refl _ w).grown hg (fun j hj => .inl (Option.some.inj hj).symm)
  exact ⟨ok', ⟨q, hb.only ho (fun e => hne e.symm), hq.only ho (fun g cur hc e => hm.no_blk hc e.symm)⟩, hm'⟩
theorem ld33 (v : Value) : Instr.loadAt 33 v = ldAgg 33 v := rfl
theorem run_ld33 (w : World) (g off : Nat) (hp : plainRow w g = true) (hfit : off + 8 ≤ (rowOf w g).size) :
    (ldAgg 33 (.pointer (some ⟨g, off, none⟩))).run Try.prog w = .ok (.agg ((rowOf w g).extract off (off + 8))) w :=
  run_loadAt_row w g off 8 33 _ Try.underlying33 rfl (by kernel_rfl) hp hfit
theorem ext8 (a b c d e f g h : Value) : (#[a, b, c, d, e, f, g, h] : Array Value).extract 0 8 = #[a, b, c, d, e, f, g, h] := rfl
attribute [local go_sem ↓] ld33
attribute [local go_sem] run_ld33 ext8
set_option maxHeartbeats 2000000 in
theorem post_at (w : World) (b m : Nat) (s : Cb) (i : Int) (x : Cl) (h : CbAt w b m s) : Calls Try.prog 20 #[.pointer (some ⟨b, 0, none⟩), .int .i64 i, x.val] w fun r w' =>
    r = .returned (.int .i64 (s.postE i)) ∧ CbAt w' b m (s.post i x) ∧ Only (TouchP b m) w w' := by
  obtain ⟨W1, hW1⟩ : ∃ W1, w.alloc (.cells x.cells.toArray 33) = W1 := ⟨_, rfl⟩
  have B1 : Below w.heap.size w W1 := by rw [← hW1]; exact (Below.refl _ _).alloc (Nat.le_refl _) _
  have h1 := h.below B1
  have hown := own_at W1 b m s i h1
  have HH := Lib.hid h
  have H1 := Lib.hid h1
  have HB := Lib.hid B1
  obtain ⟨k1, k2, k3, k4, k5, k6, k7, k8⟩ := x
  have hW1' : w.alloc (.cells #[.int .i64 k1, .int .i64 k2, .int .i64 k3, .int .i64 k4, .int .i64 k5, .int .i64 k6, .int .i64 k7, .int .i64 k8] 33) = W1 := hW1
  unfold Cb.postE
  by_cases ho : s.own i = true
  · have hnn := Cb.own_nn ho
    have hc2 := h.ok.c2
    obtain ⟨n, rfl⟩ := Int.eq_ofNat_of_zero_le hnn.1
    have hn64 : n < 64 := by omega
    rw [ho] at hown
    rw [if_pos ho, Int.toNat_natCast]
    have hl := (map_look h1.hm.drew (n : Int) (by omega) (by omega)).2
    rw [find_slot] at hl
    have c3 : W1.cell? ⟨b, 3, none⟩ = some (.map (some m)) := by
      obtain ⟨_, ⟨q, hb, _⟩, _⟩ := h1
      exact hb.cell 3
    have hbl := (h1.hb.choose_spec.1).lt
    have H := Lib.hid hown
    cases hs : slotAt s.l n with
    | some y =>
      simp only [Option.isSome_some, if_true]
      rw [hs] at hl
      obtain ⟨co, ⟨j1, j2, j3, j4, j5, j6, j7, j8⟩, tk, td, ix⟩ := y
      have hl' : (Instr.lookup 59 (.map (some m)) (.int .i64 (n : Int)) true).run Try.prog W1.drew = .ok (.tuple #[.agg #[.int .i64 (co : Int), .int .i64 j1, .int .i64 j2, .int .i64 j3, .int .i64 j4, .int .i64 j5, .int .i64 j6, .int .i64 j7, .int .i64 j8, .bool tk, .bool td, .int .i64 ix], .bool true]) W1.drew := hl
      have hpost : s.post (n : Int) ⟨k1, k2, k3, k4, k5, k6, k7, k8⟩ = s := by
        unfold Cb.post Cb.canPost
        rw [if_neg]
        rw [Int.toNat_natCast, hs]
        simp
      have HP := Lib.hid hpost
      have HW := Lib.hid hW1
      clear h h1 B1 hW1 hW1' hown hl hs hpost
      go_enter Try.func20, Try.ntmps20
      go_wp2_with ((rw [HW.out]; go_at_call 33; refine (H.out).mono ?_; rintro r w' ⟨rfl, rfl⟩))
      go_ret
      refine ⟨rfl, ?_, ?_⟩
      · rw [HP.out]
        exact H1.out.below ((((Below.refl _ W1).drew).alloc (Nat.le_refl _) _))
      · exact Only.of_below (HB.out.trans ((((Below.refl _ W1).drew).alloc (Nat.le_refl _) _).mono HB.out.size))
    | none =>
      simp only [Option.isSome_none, Bool.false_eq_true, if_false]
      rw [hs] at hl
      have hl' : (Instr.lookup 59 (.map (some m)) (.int .i64 (n : Int)) true).run Try.prog W1.drew = .ok (.tuple #[.agg #[.int .i64 0, .int .i64 0, .int .i64 0, .int .i64 0, .int .i64 0, .int .i64 0, .int .i64 0, .int .i64 0, .int .i64 0, .bool false, .bool false, .int .i64 0], .bool false]) W1.drew := hl
      have bx : Blk W1 w.heap.size 33 #[.int .i64 k1, .int .i64 k2, .int .i64 k3, .int .i64 k4, .int .i64 k5, .int .i64 k6, .int .i64 k7, .int .i64 k8] := by rw [← hW1']; exact Blk.new _ _ _
      have r1 := bx.rowOf
      have r2 := bx.plain
      have hlx := bx.lt
      have HW := Lib.hid hW1
      have HS := Lib.hid hs
      have HO := Lib.hid ho
      have HBX := Lib.hid bx
      have hne := h.ne
      have HM := Lib.hid h1.hm
      have hlm := h1.hm.lt
      clear h h1 B1 hW1 hW1' hown hl hs bx ho
      go_enter Try.func20, Try.ntmps20
      go_wp2_with ((rw [HW.out]; go_at_call 33; refine (H.out).mono ?_; rintro r w' ⟨rfl, rfl⟩))
      obtain ⟨W2, hW2⟩ : ∃ W2, ((W1.drew).alloc (.cells #[.int .i64 0, .int .i64 0, .int .i64 0, .int .i64 0, .int .i64 0, .int .i64 0, .int .i64 0, .int .i64 0, .int .i64 0, .bool false, .bool false, .int .i64 0] 49)) = W2 := ⟨_, rfl⟩
      have B2 : Below W1.heap.size W1 W2 := by rw [← hW2]; exact ((Below.refl _ W1).drew).alloc (Nat.le_refl _) _
      have hmm := HM.out.below B2 hlm
      have bx2 := HBX.out.below B2 hlx
      have r1 := bx2.drew.rowOf
      have r2 := bx2.drew.plain
      have c3 : W2.cell? ⟨b, 3, none⟩ = some (.map (some m)) := by
        obtain ⟨_, ⟨q, hb, _⟩, _⟩ := H1.out.below B2
        exact hb.cell 3
      have HM2 := Lib.hid hmm
      have HB2 := Lib.hid B2
      rw [show (W1.alloc (.cells #[.int .i64 0, .int .i64 0, .int .i64 0, .int .i64 0, .int .i64 0, .int .i64 0, .int .i64 0, .int .i64 0, .int .i64 0, .bool false, .bool false, .int .i64 0] 49)).drew = W2 from hW2]
      clear hmm bx2 hW2 B2 hl' c3 r1 r2
      have c3 : W2.cell? ⟨b, 3, none⟩ = some (.map (some m)) := by
        obtain ⟨_, ⟨q, hb, _⟩, _⟩ := H1.out.below HB2.out
        exact hb.cell 3
      have r1 := (HBX.out.below HB2.out hlx).drew.rowOf
      have r2 := (HBX.out.below HB2.out hlx).drew.plain
      go_wp2_with (first
        | (refine wp_region_stG 8 (by kernel_rfl) (by kernel_rfl) ?_; simp only [List.take_succ_cons, List.take_zero, List.drop_succ_cons, List.drop_zero]; (repeat (first | (refine StG.skip rfl rfl ?_) | (refine StG.skipU rfl (by simp only [Act.put, List.setIfInBounds_toArray, List.set_cons_zero, List.set_cons_succ]; rfl) ?_) | (refine StG.want rfl (fun K hK => ?_); go_simp; (try go_bits); refine hK _ ?_; clear hK K))); refine StG.nil ?_)
        | (refine wpList_mapPut rfl _ _ _ 59 rfl 3 49 und3 und59 m (slotG s.l) rfl (HM2.out.drew) n (newSl n ⟨k1, k2, k3, k4, k5, k6, k7, k8⟩).val rfl rfl hn64 ?_; intro w3 hm3 hg3))
      go_ret
      have hp : s.post (n : Int) ⟨k1, k2, k3, k4, k5, k6, k7, k8⟩ = { s with l := ins (newSl n ⟨k1, k2, k3, k4, k5, k6, k7, k8⟩) s.l } := by
        unfold Cb.post Cb.canPost
        rw [HO.out, Int.toNat_natCast, HS.out]
        rfl
      refine ⟨rfl, ?_, ?_⟩
      · rw [hp]
        refine CbAt.mapped (H1.out.below HB2.out.drew) hg3 ?_ (by rw [← hp]; exact Cb.post_ok H1.out.ok _ _)
        rw [slotG_ins H1.out.ok.srt (none_ne HS.out)]
        exact hm3
      · exact (Only.of_below (HB.out.trans (HB2.out.drew.mono HB.out.size))).grown hg3 (fun j hj => .inl (.inr (Option.some.inj hj).symm))
  · have ho' : s.own i = false := by simpa using ho
    rw [ho'] at hown
    rw [if_neg ho]
    have hpost : s.post i ⟨k1, k2, k3, k4, k5, k6, k7, k8⟩ = s := by
      unfold Cb.post Cb.canPost
      rw [ho']
      rfl
    have HP := Lib.hid hpost
    have HW := Lib.hid hW1
    have H := Lib.hid hown
    clear h h1 B1 hW1 hW1' hown ho ho' hpost
    go_enter Try.func20, Try.ntmps20
    go_wp2_with ((rw [HW.out]; go_at_call 33; refine (H.out).mono ?_; rintro r w' ⟨rfl, rfl⟩))
    go_ret
    refine ⟨rfl, ?_, ?_⟩
    · rw [HP.out]
      exact H1.out.below (Below.refl _ W1).drew
    · exact Only.of_below (HB.out.trans ((Below.refl _ W1).drew.mono HB.out.size))
end Go.Proofs.Ytaibhhppdmncfaa
