/- Combine: the program's Deliver, Done, Release. -/
import Derived.Test.YtaibhhppdmncfaaCbF
namespace Go.Proofs.Ytaibhhppdmncfaa
open Go.RowKit Go.Maps

theorem slotG_tell {l : List Sl} {i : Nat} {idx : Int} {x : Sl} (h : slotAt l i = some x) : slotG (l.map (Sl.tell i idx)) = fun j => if j = i then some (x.tell i idx).val else slotG l j := by
  funext j
  unfold slotG
  rw [slotAt_map (Sl.tell_core i idx)]
  split
  · rename_i hj
    subst hj
    rw [h]; rfl
  · rename_i hj
    cases hs : slotAt l j with
    | none => rfl
    | some y =>
      have : y.core ≠ i := by rw [(slotAt_core hs).2]; exact hj
      show some (Sl.val (y.tell i idx)) = some y.val
      unfold Sl.tell
      rw [if_neg this]
theorem CbAt.fin {w w4 : World} {b m : Nat} {s : Cb} {l' : List Sl} {q' : Value} {bt' : List Nat} (h : CbAt w b m s) (hg : w.grownBy w4 (some m)) (hm' : MapAt Try.prog 3 w4 m (slotG l')) (hq' : RdAt w q' bt') (ok' : Cb.ok { s with l := l', batch := bt' }) :
    CbAt (w4.setCell ⟨b, 4, none⟩ q') b m { s with l := l', batch := bt' } := by
  have hne := h.ne
  obtain ⟨ok, ⟨q, hb, hq⟩, hm⟩ := h
  have ho : Only (· = m) w w4 := (Only.refl _ w).grown hg (fun j hj => .inl (Option.some.inj hj).symm)
  have hb4 := hb.only ho (fun e => hne e.symm)
  have ho2 : Only (· = b) w4 (w4.setCell ⟨b, 4, none⟩ q') := (Only.refl (· = b) w4).setCell (p := ⟨b, 4, none⟩) (.inl rfl) _
  refine ⟨ok', ⟨q', hb4.set_ 4 _, ?_⟩, hm'.only ho2 hne⟩
  refine (hq'.only ho (fun g cur hc e => hm.no_blk hc e.symm)).only ho2 (fun g cur hc e => ?_)
  exact (hc.ne_ hb4 (by decide)) e

theorem deliver_no (w : World) (p : Option Addr) (i : Int) (h : Calls Try.prog 23 #[.pointer p] w fun r w' => r = .returned (.bool false) ∧ w = w') : Calls Try.prog 16 #[.pointer p, .int .i64 i] w fun r w' => r = .returned (.int .i64 1) ∧ w = w' := by
  have H := Lib.hid h; clear h
  go_enter Try.func16, Try.ntmps16
  go_wp2_with (go_at_call 23; refine (H.out).mono ?_; rintro r w' ⟨rfl, rfl⟩)
  go_ret
  exact ⟨rfl, rfl⟩
set_option maxHeartbeats 2000000 in
theorem deliver_at (w : World) (b m : Nat) (s : Cb) (idx : Int) (h : CbAt w b m s) : Calls Try.prog 16 #[.pointer (some ⟨b, 0, none⟩), .int .i64 idx] w fun r w' =>
    r = .returned (.int .i64 (s.deliverE idx)) ∧ CbAt w' b m (s.deliver idx) ∧ Only (TouchP b m) w w' := by
  have H := Lib.hid (is_at w b m s h)
  have HH := Lib.hid h
  unfold Cb.deliverE
  by_cases h0 : idx < 0
  · rw [if_pos h0]
    have hp : s.deliver idx = s := by unfold Cb.deliver; rw [if_pos h0]
    have HP := Lib.hid hp
    clear h hp
    go_enter Try.func16, Try.ntmps16
    go_wp2_with (go_at_call 23; refine (H.out).mono ?_; rintro r w' ⟨rfl, rfl⟩)
    go_ret
    exact ⟨rfl, by rw [HP.out]; exact HH.out, Only.refl _ _⟩
  · rw [if_neg h0]
    have h0' : decide (idx < 0) = false := by simpa using h0
    obtain ⟨ok, ⟨q, hb, hq⟩, hm⟩ := h
    have c3 : w.cell? ⟨b, 3, none⟩ = some (.map (some m)) := hb.cell 3
    have c4 : w.cell? ⟨b, 4, none⟩ = some q := hb.cell 4
    have hlt := hb.lt
    cases hbt : s.batch with
    | nil =>
      have hp : s.deliver idx = s := by unfold Cb.deliver; rw [if_neg h0, hbt]
      have HP := Lib.hid hp
      rw [hbt] at hq
      obtain ⟨a, c, rfl, _⟩ := hq
      clear hp hb hm ok hbt h0
      simp only
      go_enter Try.func16, Try.ntmps16
      go_wp2_with (go_at_call 23; refine (H.out).mono ?_; rintro r w' ⟨rfl, rfl⟩)
      go_ret
      exact ⟨rfl, by rw [HP.out]; exact HH.out, Only.refl _ _⟩
    | cons i t =>
      have hp : s.deliver idx = { s with l := s.l.map (Sl.tell i idx), batch := t } := by unfold Cb.deliver; rw [if_neg h0, hbt]
      have HP := Lib.hid hp
      rw [hbt] at hq
      obtain ⟨g, off, c, rfl, hc, c0, ⟨cur, hg⟩, hrd, hrd0⟩ := hq.head
      have hlg := hg.lt
      obtain ⟨x, hx, hxi, htk, htd⟩ := ok.bat i (by rw [hbt]; exact List.mem_cons_self)
      have hs : slotAt s.l i = some x := by rw [← hxi]; exact slotAt_mem ok.srt hx
      have hi64 : i < 64 := by
        have h2 := Cb.own_lt (ok.mine x hx)
        have h3 := ok.c2
        omega
      have hl := (map_look hm.drew (i : Int) (by omega) (by omega)).1
      rw [find_slot, hs] at hl
      have HS := Lib.hid hs
      have HM := Lib.hid hm
      have hlm := hm.lt
      have hRD := Lib.hid hrd
      have hRD0 := Lib.hid hrd0
      have hG := Lib.hid hg
      obtain ⟨co, ⟨k1, k2, k3, k4, k5, k6, k7, k8⟩, tk, td, ix⟩ := x
      obtain rfl : co = i := hxi
      obtain rfl : tk = true := htk
      obtain rfl : td = false := htd
      have HBk := Lib.hid hb
      have hne := HH.out.ne
      have OK' := Lib.hid (show Cb.ok { s with l := s.l.map (Sl.tell co idx), batch := t } by rw [← HP.out]; exact Cb.deliver_ok HH.out.ok idx)
      have hlk : ∀ W, Below w.heap.size w W → (Instr.lookup 59 (.map (some m)) (.int .i64 (co : Int)) false).run Try.prog W = .ok (.agg #[.int .i64 (co : Int), .int .i64 k1, .int .i64 k2, .int .i64 k3, .int .i64 k4, .int .i64 k5, .int .i64 k6, .int .i64 k7, .int .i64 k8, .bool true, .bool false, .int .i64 ix]) W := fun W hW => by
        have := (map_look (HM.out.below hW hlm) (co : Int) (by omega) (by omega)).1
        rw [find_slot, HS.out] at this
        exact this
      have HLK := Lib.hid hlk
      clear hp hb hm ok hbt hl hs hx hq hg hrd hrd0 h0 hlk
      simp only
      go_enter Try.func16, Try.ntmps16
      go_wp2_with (go_at_call 23; refine (H.out).mono ?_; rintro r w' ⟨rfl, rfl⟩)
      go_region_held3 (fun w' => w'.cell? ⟨b, 3, none⟩ = some (.map (some m)) ∧ w'.cell? ⟨b, 4, none⟩ = some (.slice (some ⟨g, off, none⟩) (t.length + 1) c) ∧ w'.cell? ⟨g, off, none⟩ = some (.int .i64 (co : Int)) ∧
          (Instr.lookup 59 (.map (some m)) (.int .i64 (co : Int)) false).run Try.prog w' = .ok (.agg #[.int .i64 (co : Int), .int .i64 k1, .int .i64 k2, .int .i64 k3, .int .i64 k4, .int .i64 k5, .int .i64 k6, .int .i64 k7, .int .i64 k8, .bool true, .bool false, .int .i64 ix]) w') (first
          | ((try dsimp only); refine ⟨?_, ?_, ?_, ?_⟩ <;> (first
              | (exact HLK.out _ (by first | exact (Below.refl _ _).drew | exact ((Below.refl _ _).drew).alloc (by simp) _ | exact ((Below.refl _ _).alloc (by simp) _).drew))
              | (go_keep; done)
              | (simp; omega)))) (fail)
      all_goals
        rename_i hHeld
        clear hHeld
        go_wp2_with (first
          | (refine wp_region_stG 11 (by kernel_rfl) (by kernel_rfl) ?_; simp only [List.take_succ_cons, List.take_zero, List.drop_succ_cons, List.drop_zero]; (repeat (first | (refine StG.skip rfl rfl ?_) | (refine StG.skipU rfl (by simp only [Act.put, List.setIfInBounds_toArray, List.set_cons_zero, List.set_cons_succ]; rfl) ?_) | (refine StG.want rfl (fun K hK => ?_); go_simp; (try go_bits); refine hK _ ?_; clear hK K))); refine StG.nil ?_)
          | (refine wpList_mapPut rfl _ _ _ 59 rfl 3 49 und3 und59 m (slotG s.l) rfl (HM.out.below ((((Below.refl _ w).alloc (Nat.le_refl _) _).drew).drew) hlm) co (.agg #[.int .i64 (co : Int), .int .i64 k1, .int .i64 k2, .int .i64 k3, .int .i64 k4, .int .i64 k5, .int .i64 k6, .int .i64 k7, .int .i64 k8, .bool true, .bool true, .int .i64 idx]) rfl rfl hi64 ?_; intro w4 hm4 hg4; have hb4 := ((((HBk.out.alloc _).drew).drew)).grown hg4 (fun e => hne (by first | exact Option.some.inj e | exact (Option.some.inj e).symm)); have c4w : w4.cell? ⟨b, 4, none⟩ = some (.slice (some ⟨g, off, none⟩) (t.length + 1) c) := hb4.cell 4; have f4w : w4.frozen? ⟨b, 4, none⟩ = false := hb4.frozen 4))
        all_goals
          go_ret
          refine ⟨rfl, ?_, ?_⟩
          · rw [HP.out]
            refine CbAt.fin (HH.out.below (((Below.refl _ w).alloc (Nat.le_refl _) _).drew.drew)) hg4 ?_ ?_ OK'.out
            · rw [slotG_tell HS.out]
              have e : (Sl.tell co idx ⟨co, ⟨k1, k2, k3, k4, k5, k6, k7, k8⟩, true, false, ix⟩).val = .agg #[.int .i64 (co : Int), .int .i64 k1, .int .i64 k2, .int .i64 k3, .int .i64 k4, .int .i64 k5, .int .i64 k6, .int .i64 k7, .int .i64 k8, .bool true, .bool true, .int .i64 idx] := by unfold Sl.tell; rw [if_pos rfl]; rfl
              rw [e]
              exact hm4
            · first
                | exact hRD.out.only (S := fun _ => False) (Only.of_below (((Below.refl _ w).alloc (Nat.le_refl _) _).drew.drew)) (fun _ _ _ h => h)
                | exact (hRD0.out (by first | assumption | omega)).only (S := fun _ => False) (Only.of_below (((Below.refl _ w).alloc (Nat.le_refl _) _).drew.drew)) (fun _ _ _ h => h)
          · exact ((Only.of_below (((Below.refl _ w).alloc (Nat.le_refl _) _).drew.drew)).grown hg4 (fun j hj => .inl (.inr (Option.some.inj hj).symm))).setCell (.inl (.inl rfl)) _
end Go.Proofs.Ytaibhhppdmncfaa
