/- Combine: the program's Done, Release. -/
import Derived.Test.YtaibhhppdmncfaaCbG
namespace Go.Proofs.Ytaibhhppdmncfaa
open Go.RowKit Go.Maps

theorem slotG_filter {l : List Sl} (hs : Srt l) (i : Nat) : slotG (l.filter (fun x => !((x.core : Int) == (i : Int)))) = fun j => if j = i then none else slotG l j := by
  funext j
  unfold slotG
  rw [slotAt_filter hs]
  split <;> rfl
theorem done_no (w : World) (p : Option Addr) (i : Int) (h : Calls Try.prog 23 #[.pointer p] w fun r w' => r = .returned (.bool false) ∧ w = w') : Calls Try.prog 18 #[.pointer p, .int .i64 i] w fun r w' => r = .returned (.int .i64 1) ∧ w = w' := by
  have H := Lib.hid h; clear h
  go_enter Try.func18, Try.ntmps18
  go_wp2_with (go_at_call 23; refine (H.out).mono ?_; rintro r w' ⟨rfl, rfl⟩)
  go_ret
  exact ⟨rfl, rfl⟩
def Cb.doneE (s : Cb) (i : Int) : Int := if toldAt s.l i then 0 else 4
set_option maxHeartbeats 2000000 in
theorem done_at (w : World) (b m : Nat) (s : Cb) (i : Int) (h : CbAt w b m s) (h1 : -9223372036854775808 ≤ i) (h2 : i ≤ 9223372036854775807) : Calls Try.prog 18 #[.pointer (some ⟨b, 0, none⟩), .int .i64 i] w fun r w' =>
    r = .returned (.int .i64 (s.doneE i)) ∧ CbAt w' b m (s.done i) ∧ Only (TouchP b m) w w' := by
  have H := Lib.hid (is_at w b m s h)
  have HH := Lib.hid h
  have hl := (map_look h.hm i h1 h2).1
  obtain ⟨ok, ⟨q, hb, hq⟩, hm⟩ := h
  have c3 : w.cell? ⟨b, 3, none⟩ = some (.map (some m)) := hb.cell 3
  unfold Cb.doneE
  cases ht : toldAt s.l i with
  | false =>
    have hp : s.done i = s := by unfold Cb.done; rw [ht]; rfl
    have HP := Lib.hid hp
    have hd : ∃ (co : Nat) (k1 k2 k3 k4 k5 k6 k7 k8 : Int) (tk : Bool) (ix : Int), (Instr.lookup 59 (.map (some m)) (.int .i64 i) false).run Try.prog w = .ok (.agg #[.int .i64 (co : Int), .int .i64 k1, .int .i64 k2, .int .i64 k3, .int .i64 k4, .int .i64 k5, .int .i64 k6, .int .i64 k7, .int .i64 k8, .bool tk, .bool false, .int .i64 ix]) w := by
      unfold toldAt at ht
      cases hf : s.l.find? (fun x => (x.core : Int) == i) with
      | none => rw [hf] at hl; exact ⟨0, 0, 0, 0, 0, 0, 0, 0, 0, false, 0, hl⟩
      | some x =>
        rw [hf] at hl ht
        obtain ⟨co, ⟨k1, k2, k3, k4, k5, k6, k7, k8⟩, tk, td, ix⟩ := x
        obtain rfl : td = false := ht
        exact ⟨co, k1, k2, k3, k4, k5, k6, k7, k8, tk, ix, hl⟩
    obtain ⟨co, k1, k2, k3, k4, k5, k6, k7, k8, tk, ix, hl'⟩ := hd
    clear hl ok hb hq hm ht hp
    simp only [Bool.false_eq_true, if_false]
    go_enter Try.func18, Try.ntmps18
    go_wp2_with (go_at_call 23; refine (H.out).mono ?_; rintro r w' ⟨rfl, rfl⟩)
    go_ret
    exact ⟨rfl, by rw [HP.out]; exact HH.out, Only.refl _ _⟩
  | true =>
    obtain ⟨x, hx, hxi, hxt, hf⟩ := toldAt_ex ht
    obtain rfl := hxi
    have hp : s.done (x.core : Int) = { s with l := s.l.filter (fun y => !((y.core : Int) == (x.core : Int))) } := by unfold Cb.done; rw [ht]; rfl
    have HP := Lib.hid hp
    have OK' := Lib.hid (show Cb.ok { s with l := s.l.filter (fun y => !((y.core : Int) == (x.core : Int))) } by rw [← hp]; exact Cb.done_ok ok _)
    have h64 : x.core < 64 := by
      have h2 := Cb.own_lt (ok.mine x hx)
      have h3 := ok.c2
      omega
    have SR := Lib.hid ok.srt
    rw [hf] at hl
    have HM := Lib.hid hm
    obtain ⟨co, ⟨k1, k2, k3, k4, k5, k6, k7, k8⟩, tk, td, ix⟩ := x
    obtain rfl : td = true := hxt
    have hl' : (Instr.lookup 59 (.map (some m)) (.int .i64 (co : Int)) false).run Try.prog w = .ok (.agg #[.int .i64 (co : Int), .int .i64 k1, .int .i64 k2, .int .i64 k3, .int .i64 k4, .int .i64 k5, .int .i64 k6, .int .i64 k7, .int .i64 k8, .bool tk, .bool true, .int .i64 ix]) w := hl
    have h64' : co < 64 := h64
    clear hl ok hb hq hm ht hp hf hx h64
    simp only [if_true]
    simp only at HP OK'
    go_enter Try.func18, Try.ntmps18
    go_wp2_with (first
      | (go_at_call 23; refine (H.out).mono ?_; rintro r w' ⟨rfl, rfl⟩)
      | (refine wpList_mapDel rfl _ _ 59 3 rfl 49 und3 und59 m (slotG s.l) rfl HM.out co rfl h64' ?_; intro w4 hm4 hg4))
    go_ret
    refine ⟨rfl, ?_, ?_⟩
    · rw [HP.out]
      refine CbAt.mapped HH.out hg4 ?_ OK'.out
      rw [slotG_filter SR.out co]
      exact hm4
    · exact (Only.refl _ _).grown hg4 (fun j hj => .inl (.inr (Option.some.inj hj).symm))

theorem release_no (w : World) (p : Option Addr) (i : Int) (h : Calls Try.prog 23 #[.pointer p] w fun r w' => r = .returned (.bool false) ∧ w = w') : Calls Try.prog 19 #[.pointer p, .int .i64 i] w fun r w' => r = .returned (.int .i64 1) ∧ w = w' := by
  have H := Lib.hid h; clear h
  go_enter Try.func19, Try.ntmps19
  go_wp2_with (go_at_call 23; refine (H.out).mono ?_; rintro r w' ⟨rfl, rfl⟩)
  go_ret
  exact ⟨rfl, rfl⟩
set_option maxHeartbeats 2000000 in
theorem release_at (w : World) (b m : Nat) (s : Cb) (i : Int) (h : CbAt w b m s) : Calls Try.prog 19 #[.pointer (some ⟨b, 0, none⟩), .int .i64 i] w fun r w' =>
    r = .returned (.int .i64 (s.releaseE i)) ∧ CbAt w' b m (s.release i) ∧ Only (TouchP b m) w w' := by
  have H := Lib.hid (is_at w b m s h)
  have HH := Lib.hid h
  obtain ⟨ok, ⟨q, hb, hq⟩, hm⟩ := h
  have HB := Lib.hid hb
  have HM := Lib.hid hm
  have HQ := Lib.hid hq
  have OK := Lib.hid ok
  have c4 : w.cell? ⟨b, 4, none⟩ = some q := hb.cell 4
  have c5 : w.cell? ⟨b, 5, none⟩ = some (.bool s.who.isSome) := hb.cell 5
  have c6 : w.cell? ⟨b, 6, none⟩ = some (.int .i64 (s.who.getD 0 : Nat)) := hb.cell 6
  have f5 : w.frozen? ⟨b, 5, none⟩ = false := hb.frozen 5
  have f6 : w.frozen? ⟨b, 6, none⟩ = false := hb.frozen 6
  unfold Cb.releaseE
  cases hw : s.who with
  | none =>
    have hp : s.release i = s := by unfold Cb.release Cb.mayRelease; rw [hw]; rfl
    have hmr : s.mayRelease i = false := by unfold Cb.mayRelease; rw [hw]
    rw [hw] at c5
    have c5' : w.cell? ⟨b, 5, none⟩ = some (.bool false) := c5
    have HP := Lib.hid hp
    rw [hmr]
    clear c5 c6 ok hb hq hm hp hmr hw
    simp only [Bool.false_eq_true, if_false]
    go_enter Try.func19, Try.ntmps19
    go_wp2_with (go_at_call 23; refine (H.out).mono ?_; rintro r w' ⟨rfl, rfl⟩)
    go_ret
    exact ⟨rfl, by rw [HP.out]; exact HH.out, Only.refl _ _⟩
  | some k =>
    rw [hw] at c5 c6
    have c5' : w.cell? ⟨b, 5, none⟩ = some (.bool true) := c5
    have c6' : w.cell? ⟨b, 6, none⟩ = some (.int .i64 (k : Int)) := c6
    by_cases hk : (k : Int) = i
    · subst hk
      have hmr : s.mayRelease (k : Int) = true := by unfold Cb.mayRelease; rw [hw]; simp
      rw [hmr]
      cases hbt : s.batch with
      | nil =>
        have hp : s.release (k : Int) = { s with who := none } := by unfold Cb.release; rw [hmr, hbt]; rfl
        have HP := Lib.hid hp
        have OK' := Lib.hid (show Cb.ok { s with who := none } by rw [← hp]; exact Cb.release_ok ok _)
        rw [hbt] at hq
        obtain ⟨a, c, rfl, _⟩ := hq
        have hne := HH.out.ne
        clear c5 c6 ok hb hm hp hmr hw hbt
        simp only [if_true, List.isEmpty_nil]
        go_enter Try.func19, Try.ntmps19
        go_wp2_with (go_at_call 23; refine (H.out).mono ?_; rintro r w' ⟨rfl, rfl⟩)
        go_ret
        have ho : Only (· = b) w ((w.setCell ⟨b, 5, none⟩ (.bool false)).setCell ⟨b, 6, none⟩ (.int .i64 0)) := ((Only.refl (· = b) w).setCell (p := ⟨b, 5, none⟩) (.inl rfl) _).setCell (p := ⟨b, 6, none⟩) (.inl rfl) _
        refine ⟨rfl, ?_, ((Only.refl _ w).setCell (p := ⟨b, 5, none⟩) (.inl (.inl rfl)) _).setCell (p := ⟨b, 6, none⟩) (.inl (.inl rfl)) _⟩
        rw [HP.out]
        refine ⟨OK'.out, ⟨_, (HB.out.set_ 5 (.bool false)).set_ 6 (.int .i64 0), HQ.out.only ho (fun g cur hc e => (hc.ne_ HB.out (by decide)) e)⟩, HM.out.only ho hne⟩
      | cons j t =>
        have hp : s.release (k : Int) = s := by unfold Cb.release; rw [hmr, hbt]; rfl
        have HP := Lib.hid hp
        rw [hbt] at hq
        obtain ⟨a, c, rfl, _⟩ := hq
        clear c5 c6 ok hb hm hp hmr hw hbt
        simp only [if_true, List.isEmpty_cons, Bool.false_eq_true, if_false, List.length_cons] at c4 ⊢
        go_enter Try.func19, Try.ntmps19
        go_wp2_with (go_at_call 23; refine (H.out).mono ?_; rintro r w' ⟨rfl, rfl⟩)
        go_ret
        exact ⟨rfl, by rw [HP.out]; exact HH.out, Only.refl _ _⟩
    · have hmr : s.mayRelease i = false := by unfold Cb.mayRelease; rw [hw]; simpa using hk
      have hp : s.release i = s := by unfold Cb.release; rw [hmr]; rfl
      have hk' : ((k : Int) == i) = false := by simpa using hk
      have HP := Lib.hid hp
      rw [hmr]
      clear c5 c6 ok hb hq hm hp hmr hw hk
      simp only [Bool.false_eq_true, if_false]
      go_enter Try.func19, Try.ntmps19
      go_wp2_with (go_at_call 23; refine (H.out).mono ?_; rintro r w' ⟨rfl, rfl⟩)
      go_ret
      exact ⟨rfl, by rw [HP.out]; exact HH.out, Only.refl _ _⟩
end Go.Proofs.Ytaibhhppdmncfaa
