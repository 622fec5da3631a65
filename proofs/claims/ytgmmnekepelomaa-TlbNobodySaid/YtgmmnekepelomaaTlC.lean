/- Tlb: keep, walked. -/
import Derived.Test.YtgmmnekepelomaaTlB
import Derived.Deep.RegionWith
namespace Go.Proofs.Ytgmmnekepelomaa
open Go.RowKit
attribute [local go_sem ↓] ld30 st30
attribute [local go_sem] run_ld30 run_st30 tr_ones tr_size tr_take tr_extract tr_put tr_put' tr_len

theorem keep_nil (w : World) (f : Value) : Calls Try.prog 28 #[.pointer none, f] w fun r w' => r = .returned (.int .i64 0) ∧ w = w' := by
  go_enter Try.func28, Try.ntmps28
  go_wp2
  go_ret
  exact ⟨rfl, rfl⟩

/-- What the function that keep is handed does. -/
def Picks (gf : Nat) (lb : List Value) (b : Nat) (w : World) (s : Tl) (p : Nat → Tr → Bool) : Prop :=
  ∀ (k : Nat) (x : Tr) (W : World), s.l[k]? = some x → Only (· = b) w W → Calls Try.prog gf (#[.int .i64 k, x.val] ++ lb.toArray) W fun r w' => r = .returned (.bool (p k x)) ∧ Below W.heap.size W w'

set_option maxRecDepth 100000 in
set_option maxHeartbeats 4000000 in
theorem keep29 (w : World) (b B1 B2 : Nat) (s : Tl) (p : Nat → Tr → Bool) (h : TlAt w b s) (hp : Picks 29 [.pointer (some ⟨B1, 0, none⟩), .pointer (some ⟨B2, 0, none⟩)] b w s p) :
    Calls Try.prog 28 #[.pointer (some ⟨b, 0, none⟩), .func (.func 29) #[] #[.pointer (some ⟨B1, 0, none⟩), .pointer (some ⟨B2, 0, none⟩)]] w fun r w' =>
      r = .returned (.int .i64 ((s.l.length : Int) - (kept p s.l s.l.length).length)) ∧ TlAt w' b { s with l := kept p s.l s.l.length } ∧ Only (· = b) w w' := by
  obtain ⟨ok, cs, at0, hc, hs, hat, e1, e2, e3, hr⟩ := h
  have h64 : s.l.length ≤ 64 := Nat.le_trans ok.n ok.s2
  have c1 : w.cell? ⟨b, 257, none⟩ = some (.int .i64 s.l.length) := (hc.cell 257).trans e2
  have hM0 : Mid w w b at0 s p 0 := ⟨⟨cs, hc, hs, e1, e2, e3, fun j x hj => (by simp [kept_zero] at hj), fun j x _ hx => hr j x hx⟩, Only.refl _ _⟩
  have HP := Lib.hid hp
  have OK := Lib.hid ok
  clear hp hc hs e1 e2 e3 hr ok
  go_enter Try.func28, Try.ntmps28
  go_wp2_with fail
  go_loopw [5, 15] (fun n i wr => ∃ k : Nat, k ≤ s.l.length ∧ i = .int .i64 k ∧ n = .int .i64 ((kept p s.l k).length : Nat) ∧ Mid w wr b at0 s p k)
    (fun _ i _ => s.l.length - (intOf i).toNat)
  case atStart => exact ⟨0, Nat.zero_le _, rfl, rfl, hM0⟩
  case round =>
    obtain ⟨k, hk, rfl, rfl, hM⟩ := hrel
    clear hM0 c1
    have hkl := kept_le p s.l k
    obtain ⟨n, hn⟩ : ∃ n, n = (kept p s.l k).length := ⟨_, rfl⟩
    rw [← hn] at hkl ⊢
    have HN := Lib.hid hn
    by_cases hlt : k < s.l.length
    · obtain ⟨⟨cs, hc, e0, e1, e2, e3, e4, e5⟩, o⟩ := hM
      have hext := e5 k _ (Nat.le_refl _) (List.getElem?_eq_getElem hlt)
      obtain ⟨j, hj⟩ : ∃ j, j = (at0 + k) % 64 := ⟨_, rfl⟩
      have hj64 : j < 64 := by omega
      have hj0 : (0 : Int) ≤ (j : Int) := Int.natCast_nonneg _
      have hj1 : (j : Int) < 64 := by omega
      have hfit : j * 4 + 4 ≤ cs.size := by omega
      rw [← hj] at hext
      have hi : ∀ W, Below wr.heap.size wr W → Calls Try.prog 27 #[.pointer (some ⟨b, 0, none⟩), .int .i64 k] W fun r w' => r = .returned (.int .i64 (j : Nat)) ∧ W = w' := fun W hW => by
        rw [hj]
        exact i_blk W b at0 k cs (hc.below hW hc.lt) e1 hat (by omega)
      have HI := Lib.hid hi
      have r1 := hc.rowOf
      have r2 := hc.plain
      have hcl := hc.lt
      obtain ⟨x, hx⟩ : ∃ x, x = s.l[k] := ⟨_, rfl⟩
      rw [← hx] at hext
      have HX := Lib.hid hx
      have HJ := Lib.hid hj
      have HC := Lib.hid hc
      have HO := Lib.hid o
      have E0 := Lib.hid e0
      have E1 := Lib.hid e1
      have E2 := Lib.hid e2
      have E3 := Lib.hid e3
      have E4 := Lib.hid e4
      have E5 := Lib.hid e5
      clear hi hx hj hc o hn e0 e1 e2 e3 e4 e5
      go_wp2_with fail
      go_region_with (go_at_call 27; refine (HI.out _ (by first | exact (Below.refl _ _).drew | exact ((Below.refl _ _).alloc (Nat.le_refl _) _).drew)).mono ?_; rintro r w5 ⟨rfl, rfl⟩)
      all_goals go_wp2_with fail
      all_goals
        have hxk : s.l[k]? = some x := by rw [HX.out]; exact List.getElem?_eq_getElem hlt
        obtain ⟨W1, hW1⟩ : ∃ W1, (wr.alloc (.cells x.cells.toArray 30)).drew = W1 := ⟨_, rfl⟩
        have bx : Blk W1 wr.heap.size 30 x.cells.toArray := by rw [← hW1]; exact (Blk.new _ _ _).drew
        have hb1 : Below wr.heap.size wr W1 := by rw [← hW1]; exact ((Below.refl _ _).alloc (Nat.le_refl _) _).drew
        rw [hW1]
        have HW := Lib.hid hW1
        refine (HP.out k x W1 hxk (HO.out.trans (Only.of_below hb1))).mono ?_
        rintro r w2 ⟨rfl, B2⟩
        have hb2 := hb1.trans (B2.mono hb1.size)
        have hc2 := HC.out.below hb2 hcl
        have bx2 := bx.below B2 bx.lt
        have ho2 := HO.out.trans (Only.of_below hb2)
        clear hW1 r1 r2 hb1 HW hxk bx hj0 hj1 hfit hj64 hext
        cases hpk : p k x
        · have HPK := Lib.hid hpk
          have hpk' : p k s.l[k] = false := by rw [← HX.out]; exact HPK.out
          have hM' := mid_no ⟨⟨cs, HC.out, E0.out, E1.out, E2.out, E3.out, E4.out, E5.out⟩, HO.out⟩ hb2 hlt hpk'
          have hks : (kept p s.l (k + 1)).length = n := by rw [kept_succ p s.l k hlt, hpk', HN.out]; simp
          have HKS := Lib.hid hks
          clear hpk hpk' hc2 bx2 ho2 hb2 hks
          go_wp2_with fail
          go_roundw
          case rel => exact ⟨k + 1, by omega, by go_num, by rw [HKS.out], hM'⟩
          case measure => simp [intOf]; omega
        · have HPK := Lib.hid hpk
          have hpk' : p k s.l[k] = true := by rw [← HX.out]; exact HPK.out
          have hks : (kept p s.l (k + 1)).length = n + 1 := by rw [kept_succ p s.l k hlt, hpk', HN.out]; simp
          have HKS := Lib.hid hks
          obtain ⟨i, hi⟩ : ∃ i, i = (at0 + n) % 64 := ⟨_, rfl⟩
          have hi64 : i < 64 := by omega
          have hi0 : (0 : Int) ≤ (i : Int) := Int.natCast_nonneg _
          have hi1 : (i : Int) < 64 := by omega
          have hcs := E0.out
          have hfit : i * 4 + 4 ≤ cs.size := by omega
          have hfin : Mid w ((w2.setRow b (putAt cs (i * 4) x.cells)).drew) b at0 s p (k + 1) := by
            refine mid_yes (cs := cs) OK.out (ho2.setRow (.inl rfl) _).drew ?_ E0.out E1.out E2.out E3.out E4.out E5.out hlt hpk'
            rw [← HN.out, ← hi, List.getElem?_eq_getElem hlt, Option.getD_some, ← HX.out]
            exact (hc2.row_ _).drew
          have hii : ∀ W, W = w2 ∨ W = w2.drew → Calls Try.prog 27 #[.pointer (some ⟨b, 0, none⟩), .int .i64 n] W fun r w' => r = .returned (.int .i64 (i : Nat)) ∧ W = w' := fun W hW => by
            rw [hi]
            refine i_blk W b at0 n cs ?_ E1.out hat (by omega)
            rcases hW with rfl | rfl
            · exact hc2
            · exact hc2.drew
          have HII := Lib.hid hii
          have r1 := hc2.rowOf
          have r2 := hc2.plain
          have r3 := bx2.rowOf
          have r4 := bx2.plain
          have HI2 := Lib.hid hi
          have HFIN := Lib.hid hfin
          have hnb : n ≤ 64 := by omega
          clear hpk hpk' hks hii hi hcs hfin hc2 bx2 ho2 hb2
          go_wp2_with (first
            | (refine wp_region_stG 8 (by kernel_rfl) (by kernel_rfl) ?_
               simp only [List.take_succ_cons, List.take_zero, List.drop_succ_cons, List.drop_zero]
               repeat (first
                 | (refine StG.want rfl (fun K hK => ?_); go_simp; (try go_bits); refine hK _ ?_; clear hK K)
                 | (refine StG.want rfl (fun K hK => ?_); go_simp; refine ⟨_, (HII.out _ (.inr rfl)).mono (fun _ _ h => ⟨h.1, h.2.symm⟩), hK _ ?_⟩; clear hK K))
               refine StG.nil ?_))
          go_roundw
          case rel => exact ⟨k + 1, by omega, by go_num, by rw [HKS.out]; go_num, HFIN.out⟩
          case measure => simp [intOf]; omega
    · obtain rfl : k = s.l.length := by omega
      obtain ⟨⟨cs, hc, e0, e1, e2, e3, e4, e5⟩, o⟩ := hM
      have c1 : wr.cell? ⟨b, 257, none⟩ = some (.int .i64 s.l.length) := (hc.cell 257).trans e2
      have c2 : wr.frozen? ⟨b, 257, none⟩ = false := hc.frozen 257
      have hfin : TlAt (wr.setCell ⟨b, 257, none⟩ (.int .i64 (n : Nat))) b { s with l := kept p s.l s.l.length } := by
        rw [HN.out]
        exact ring_len hc e0 e1 e3 hat (fun k x hk => e4 k x hk) OK.out.s1 OK.out.s2 (by rw [← HN.out]; exact Nat.le_trans hkl OK.out.n) (fun x hx => OK.out.m x (kept_mem _ _ _ hx))
      have ho : Only (· = b) w (wr.setCell ⟨b, 257, none⟩ (.int .i64 (n : Nat))) := o.setCell (p := ⟨b, 257, none⟩) (.inl rfl) _
      have HF := Lib.hid hfin
      have HO := Lib.hid ho
      clear hc e0 e1 e2 e3 e4 e5 o hfin ho hn
      go_wp2_with fail
      go_ret
      exact ⟨by rw [← HN.out]; rfl, HF.out, HO.out⟩
set_option maxRecDepth 100000 in
set_option maxHeartbeats 4000000 in
theorem keep30 (w : World) (b B1 : Nat) (s : Tl) (p : Nat → Tr → Bool) (h : TlAt w b s) (hp : Picks 30 [.pointer (some ⟨B1, 0, none⟩)] b w s p) :
    Calls Try.prog 28 #[.pointer (some ⟨b, 0, none⟩), .func (.func 30) #[] #[.pointer (some ⟨B1, 0, none⟩)]] w fun r w' =>
      r = .returned (.int .i64 ((s.l.length : Int) - (kept p s.l s.l.length).length)) ∧ TlAt w' b { s with l := kept p s.l s.l.length } ∧ Only (· = b) w w' := by
  obtain ⟨ok, cs, at0, hc, hs, hat, e1, e2, e3, hr⟩ := h
  have h64 : s.l.length ≤ 64 := Nat.le_trans ok.n ok.s2
  have c1 : w.cell? ⟨b, 257, none⟩ = some (.int .i64 s.l.length) := (hc.cell 257).trans e2
  have hM0 : Mid w w b at0 s p 0 := ⟨⟨cs, hc, hs, e1, e2, e3, fun j x hj => (by simp [kept_zero] at hj), fun j x _ hx => hr j x hx⟩, Only.refl _ _⟩
  have HP := Lib.hid hp
  have OK := Lib.hid ok
  clear hp hc hs e1 e2 e3 hr ok
  go_enter Try.func28, Try.ntmps28
  go_wp2_with fail
  go_loopw [5, 15] (fun n i wr => ∃ k : Nat, k ≤ s.l.length ∧ i = .int .i64 k ∧ n = .int .i64 ((kept p s.l k).length : Nat) ∧ Mid w wr b at0 s p k)
    (fun _ i _ => s.l.length - (intOf i).toNat)
  case atStart => exact ⟨0, Nat.zero_le _, rfl, rfl, hM0⟩
  case round =>
    obtain ⟨k, hk, rfl, rfl, hM⟩ := hrel
    clear hM0 c1
    have hkl := kept_le p s.l k
    obtain ⟨n, hn⟩ : ∃ n, n = (kept p s.l k).length := ⟨_, rfl⟩
    rw [← hn] at hkl ⊢
    have HN := Lib.hid hn
    by_cases hlt : k < s.l.length
    · obtain ⟨⟨cs, hc, e0, e1, e2, e3, e4, e5⟩, o⟩ := hM
      have hext := e5 k _ (Nat.le_refl _) (List.getElem?_eq_getElem hlt)
      obtain ⟨j, hj⟩ : ∃ j, j = (at0 + k) % 64 := ⟨_, rfl⟩
      have hj64 : j < 64 := by omega
      have hj0 : (0 : Int) ≤ (j : Int) := Int.natCast_nonneg _
      have hj1 : (j : Int) < 64 := by omega
      have hfit : j * 4 + 4 ≤ cs.size := by omega
      rw [← hj] at hext
      have hi : ∀ W, Below wr.heap.size wr W → Calls Try.prog 27 #[.pointer (some ⟨b, 0, none⟩), .int .i64 k] W fun r w' => r = .returned (.int .i64 (j : Nat)) ∧ W = w' := fun W hW => by
        rw [hj]
        exact i_blk W b at0 k cs (hc.below hW hc.lt) e1 hat (by omega)
      have HI := Lib.hid hi
      have r1 := hc.rowOf
      have r2 := hc.plain
      have hcl := hc.lt
      obtain ⟨x, hx⟩ : ∃ x, x = s.l[k] := ⟨_, rfl⟩
      rw [← hx] at hext
      have HX := Lib.hid hx
      have HJ := Lib.hid hj
      have HC := Lib.hid hc
      have HO := Lib.hid o
      have E0 := Lib.hid e0
      have E1 := Lib.hid e1
      have E2 := Lib.hid e2
      have E3 := Lib.hid e3
      have E4 := Lib.hid e4
      have E5 := Lib.hid e5
      clear hi hx hj hc o hn e0 e1 e2 e3 e4 e5
      go_wp2_with fail
      go_region_with (go_at_call 27; refine (HI.out _ (by first | exact (Below.refl _ _).drew | exact ((Below.refl _ _).alloc (Nat.le_refl _) _).drew)).mono ?_; rintro r w5 ⟨rfl, rfl⟩)
      all_goals go_wp2_with fail
      all_goals
        have hxk : s.l[k]? = some x := by rw [HX.out]; exact List.getElem?_eq_getElem hlt
        obtain ⟨W1, hW1⟩ : ∃ W1, (wr.alloc (.cells x.cells.toArray 30)).drew = W1 := ⟨_, rfl⟩
        have bx : Blk W1 wr.heap.size 30 x.cells.toArray := by rw [← hW1]; exact (Blk.new _ _ _).drew
        have hb1 : Below wr.heap.size wr W1 := by rw [← hW1]; exact ((Below.refl _ _).alloc (Nat.le_refl _) _).drew
        rw [hW1]
        have HW := Lib.hid hW1
        refine (HP.out k x W1 hxk (HO.out.trans (Only.of_below hb1))).mono ?_
        rintro r w2 ⟨rfl, B2⟩
        have hb2 := hb1.trans (B2.mono hb1.size)
        have hc2 := HC.out.below hb2 hcl
        have bx2 := bx.below B2 bx.lt
        have ho2 := HO.out.trans (Only.of_below hb2)
        clear hW1 r1 r2 hb1 HW hxk bx hj0 hj1 hfit hj64 hext
        cases hpk : p k x
        · have HPK := Lib.hid hpk
          have hpk' : p k s.l[k] = false := by rw [← HX.out]; exact HPK.out
          have hM' := mid_no ⟨⟨cs, HC.out, E0.out, E1.out, E2.out, E3.out, E4.out, E5.out⟩, HO.out⟩ hb2 hlt hpk'
          have hks : (kept p s.l (k + 1)).length = n := by rw [kept_succ p s.l k hlt, hpk', HN.out]; simp
          have HKS := Lib.hid hks
          clear hpk hpk' hc2 bx2 ho2 hb2 hks
          go_wp2_with fail
          go_roundw
          case rel => exact ⟨k + 1, by omega, by go_num, by rw [HKS.out], hM'⟩
          case measure => simp [intOf]; omega
        · have HPK := Lib.hid hpk
          have hpk' : p k s.l[k] = true := by rw [← HX.out]; exact HPK.out
          have hks : (kept p s.l (k + 1)).length = n + 1 := by rw [kept_succ p s.l k hlt, hpk', HN.out]; simp
          have HKS := Lib.hid hks
          obtain ⟨i, hi⟩ : ∃ i, i = (at0 + n) % 64 := ⟨_, rfl⟩
          have hi64 : i < 64 := by omega
          have hi0 : (0 : Int) ≤ (i : Int) := Int.natCast_nonneg _
          have hi1 : (i : Int) < 64 := by omega
          have hcs := E0.out
          have hfit : i * 4 + 4 ≤ cs.size := by omega
          have hfin : Mid w ((w2.setRow b (putAt cs (i * 4) x.cells)).drew) b at0 s p (k + 1) := by
            refine mid_yes (cs := cs) OK.out (ho2.setRow (.inl rfl) _).drew ?_ E0.out E1.out E2.out E3.out E4.out E5.out hlt hpk'
            rw [← HN.out, ← hi, List.getElem?_eq_getElem hlt, Option.getD_some, ← HX.out]
            exact (hc2.row_ _).drew
          have hii : ∀ W, W = w2 ∨ W = w2.drew → Calls Try.prog 27 #[.pointer (some ⟨b, 0, none⟩), .int .i64 n] W fun r w' => r = .returned (.int .i64 (i : Nat)) ∧ W = w' := fun W hW => by
            rw [hi]
            refine i_blk W b at0 n cs ?_ E1.out hat (by omega)
            rcases hW with rfl | rfl
            · exact hc2
            · exact hc2.drew
          have HII := Lib.hid hii
          have r1 := hc2.rowOf
          have r2 := hc2.plain
          have r3 := bx2.rowOf
          have r4 := bx2.plain
          have HI2 := Lib.hid hi
          have HFIN := Lib.hid hfin
          have hnb : n ≤ 64 := by omega
          clear hpk hpk' hks hii hi hcs hfin hc2 bx2 ho2 hb2
          go_wp2_with (first
            | (refine wp_region_stG 8 (by kernel_rfl) (by kernel_rfl) ?_
               simp only [List.take_succ_cons, List.take_zero, List.drop_succ_cons, List.drop_zero]
               repeat (first
                 | (refine StG.want rfl (fun K hK => ?_); go_simp; (try go_bits); refine hK _ ?_; clear hK K)
                 | (refine StG.want rfl (fun K hK => ?_); go_simp; refine ⟨_, (HII.out _ (.inr rfl)).mono (fun _ _ h => ⟨h.1, h.2.symm⟩), hK _ ?_⟩; clear hK K))
               refine StG.nil ?_))
          go_roundw
          case rel => exact ⟨k + 1, by omega, by go_num, by rw [HKS.out]; go_num, HFIN.out⟩
          case measure => simp [intOf]; omega
    · obtain rfl : k = s.l.length := by omega
      obtain ⟨⟨cs, hc, e0, e1, e2, e3, e4, e5⟩, o⟩ := hM
      have c1 : wr.cell? ⟨b, 257, none⟩ = some (.int .i64 s.l.length) := (hc.cell 257).trans e2
      have c2 : wr.frozen? ⟨b, 257, none⟩ = false := hc.frozen 257
      have hfin : TlAt (wr.setCell ⟨b, 257, none⟩ (.int .i64 (n : Nat))) b { s with l := kept p s.l s.l.length } := by
        rw [HN.out]
        exact ring_len hc e0 e1 e3 hat (fun k x hk => e4 k x hk) OK.out.s1 OK.out.s2 (by rw [← HN.out]; exact Nat.le_trans hkl OK.out.n) (fun x hx => OK.out.m x (kept_mem _ _ _ hx))
      have ho : Only (· = b) w (wr.setCell ⟨b, 257, none⟩ (.int .i64 (n : Nat))) := o.setCell (p := ⟨b, 257, none⟩) (.inl rfl) _
      have HF := Lib.hid hfin
      have HO := Lib.hid ho
      clear hc e0 e1 e2 e3 e4 e5 o hfin ho hn
      go_wp2_with fail
      go_ret
      exact ⟨by rw [← HN.out]; rfl, HF.out, HO.out⟩
end Go.Proofs.Ytgmmnekepelomaa
