/- Shoot: Handle. -/
import Derived.Test.YtfekllnalacggaaShD
namespace Go.Proofs.Ytfekllnalacggaa
open Go.RowKit
attribute [local go_sem ↓] ld35 st35
attribute [local go_sem] run_ld35 run_st35

theorem Sh.did_mem {s : Sh} {i : Int} (h : s.did i < s.l.length) : 0 ≤ i ∧ i < s.d.length := by
  by_cases h0 : 0 ≤ i ∧ i < s.d.length
  · exact h0
  · rw [Sh.did_out (by omega)] at h; omega
theorem Sh.hand_ok {s : Sh} (ok : s.ok) (i : Int) : (s.hand i).ok := by
  unfold Sh.hand
  split
  · rename_i h
    refine ⟨by simpa using ok.c1, by simpa using ok.c2, fun k hk => ?_⟩
    rcases List.mem_or_eq_of_mem_set hk with h1 | rfl
    · exact ok.hd k h1
    · exact h
  · exact ok

theorem handed (w W : World) (b e k m : Nat) (s : Sh) (cs : Array Value) (q : Value) (hb : Blk w b 46 #[.slice (some ⟨e, 0, none⟩) s.d.length s.d.length, .int .i64 s.l.length]) (hc : Blk w e 58 cs) (hs : cs.size = s.d.length)
    (hx : ∀ (c k : Nat), s.d[c]? = some k → ∃ q, cs[c]? = some q ∧ QAt w q s.l k) (hk : k < s.d.length) (hok : ({ s with d := s.d.set k (m + 1) } : Sh).ok) (hW : Only (fun _ => False) (w.setCell ⟨e, k, none⟩ q) W) (hq : QAt w q s.l (m + 1)) :
    ShAt W b e { s with d := s.d.set k (m + 1) } := by
  have hbe : b ≠ e := hb.ne_ hc (by decide)
  refine ShAt.only (S := fun _ => False) (w := w.setCell ⟨e, k, none⟩ q) ⟨hok, ?_, cs.setIfInBounds k q, hc.set_ k q, by simpa using hs, fun c k' hk' => ?_⟩ hW (fun h => h) (fun h => h) (fun _ _ _ h => h)
  · rw [List.length_set]
    exact hb.far (p := ⟨e, k, none⟩) hbe _
  · have hfar : ∀ q' j, QAt w q' s.l j → QAt (w.setCell ⟨e, k, none⟩ q) q' s.l j := fun q' j h =>
      h.only (S := (· = e)) ((Only.refl (· = e) w).setCell (p := ⟨e, k, none⟩) (.inl rfl) q) (fun g cur hg h => hg.ne_ hc (by decide) h)
    by_cases hck : c = k
    · subst hck
      have h1 : k' = m + 1 := by simpa [hk] using hk'.symm
      subst h1
      exact ⟨q, by simp [hs, hk], hfar _ _ hq⟩
    · have h1 : s.d[c]? = some k' := by rwa [List.getElem?_set_ne (Ne.symm hck)] at hk'
      obtain ⟨q', e1, e2⟩ := hx c k' h1
      exact ⟨q', by rw [Array.getElem?_setIfInBounds_ne (Ne.symm hck)]; exact e1, hfar _ _ e2⟩

set_option maxRecDepth 100000 in
set_option maxHeartbeats 1000000 in
theorem handle_sh (w : World) (b e : Nat) (s : Sh) (i : Int) (h : ShAt w b e s) :
    Calls Try.prog 9 #[.pointer (some ⟨b, 0, none⟩), .int .i64 i] w fun r w' => r = .returned (handV (s.next i)) ∧ ShAt w' b e (s.hand i) ∧ Only (· = e) w w' := by
  have hok := Sh.hand_ok h.ok i
  have hbe := h.ne
  unfold Sh.next
  unfold Sh.hand at hok ⊢
  by_cases hd : s.did i < s.l.length
  · have hi := Sh.did_mem hd
    rw [if_pos hd] at hok
    rw [if_pos hd, List.getElem?_eq_getElem hd]
    obtain ⟨k, rfl⟩ := Int.eq_ofNat_of_zero_le hi.1
    have hk : k < s.d.length := by omega
    obtain ⟨ok, hb, cs, hc, hs, hx⟩ := h
    obtain ⟨q, hq, a, c, rfl, hcap, hrow⟩ := hx k _ (List.getElem?_eq_getElem hk)
    have hdk : s.did (k : Int) = s.d[k] := Sh.did_in hk
    rw [← hdk] at hq hcap hrow
    obtain ⟨g, off, cur, rfl, hg, hfit, hcur⟩ := hrow.resolve_left (fun h => by have := h.2; omega)
    have h3 := hcur _ _ (List.getElem?_eq_getElem hd) (Nat.le_refl _)
    rw [Nat.sub_self, Nat.zero_mul, Nat.add_zero] at h3
    have g1 := h3 1 (by omega)
    have g2 := h3 2 (by omega)
    simp only [askC, List.getElem?_cons_succ, List.getElem?_cons_zero] at g1 g2
    rw [Int.toNat_natCast] at hok ⊢
    obtain ⟨m, hm⟩ : ∃ m, m = s.did (k : Int) := ⟨_, rfl⟩
    obtain ⟨x, hx0⟩ : ∃ x, x = s.l[s.did (k : Int)] := ⟨_, rfl⟩
    rw [← hx0] at g1 g2 ⊢
    rw [← hm] at hq hcap hd hcur hfit hok ⊢
    obtain ⟨n, hn⟩ : ∃ n, s.l.length - m = n + 1 := ⟨s.l.length - m - 1, by omega⟩
    rw [hn] at hq hcap hfit
    have hn1 : (1 : Int) ≤ (n : Int) + 1 := by omega
    have hlt := hb.lt
    have hlt2 := hc.lt
    have hlt3 := hg.lt
    have c0 : w.cell? ⟨b, 0, none⟩ = some (.slice (some ⟨e, 0, none⟩) s.d.length s.d.length) := hb.cell 0
    have c2 : w.cell? ⟨e, k, none⟩ = some (.slice (some ⟨g, off, none⟩) (n + 1) c) := (hc.cell k).trans hq
    have f2 : w.frozen? ⟨e, k, none⟩ = false := hc.frozen k
    have x1 : w.cell? ⟨g, off + 1, none⟩ = some (.int .i64 x.f) := (hg.cell _).trans g1
    have x2 : w.cell? ⟨g, off + 2, none⟩ = some (.int .i64 x.t) := (hg.cell _).trans g2
    have hge : g ≠ e := hg.ne_ hc (by decide)
    have HB := Lib.hid hb
    have HC := Lib.hid hc
    have HG := Lib.hid hg
    have HS := Lib.hid hs
    have HX := Lib.hid hx
    have HCUR := Lib.hid hcur
    have HM := Lib.hid hm
    have HN := Lib.hid hn
    have HOK := Lib.hid hok
    clear hb hc hg hs hx hcur hm hx0 g1 g2 h3 hq hn hok hdk
    go_enter Try.func9, Try.ntmps9
    go_wp2_with (go_at_call 19; refine (core_in _ b e _ k _ _ cs HB.out HC.out hk ((HC.out.cell k).symm.trans c2)).mono ?_; rintro r w1 ⟨rfl, rfl⟩)
    refine wp_region_stG 8 (by kernel_rfl) (by kernel_rfl) ?_
    simp only [List.take_succ_cons, List.take_zero, List.drop_succ_cons, List.drop_zero]
    repeat (first | (refine StG.skip rfl rfl ?_) | (refine StG.want rfl (fun K hK => ?_); go_simp; (try go_bits); refine hK _ ?_; clear hK K))
    refine StG.nil ?_
    go_wp2
    all_goals
      go_quiet (fail)
      go_wp2
      refine bodyPost_ret (results_tmp3 rfl _ _ _) rfl ?_
      refine ⟨rfl, ?_, ((((Only.refl (· = e) w).setCell (p := ⟨e, k, none⟩) (.inl rfl) _).drew).drewN nq)⟩
      refine handed w _ b e k m s cs _ HB.out HC.out HS.out HX.out hk HOK.out (((Only.refl _ _).drew).drewN _) ?_
      have hN := HN.out
      refine ⟨_, _, by rw [show s.l.length - (m + 1) = n by omega], by omega, .inr ?_⟩
    · refine ⟨g, off, cur, rfl, HG.out, by omega, fun j x hj hmj u hu => ?_⟩
      have := (List.getElem?_eq_some_iff.1 hj).1
      omega
    · refine ⟨g, off + 3, cur, rfl, HG.out, by omega, fun j x hj hmj u hu => ?_⟩
      have h5 := HCUR.out j x hj (by omega) u hu
      rw [show off + (j - m) * 3 = off + 3 + (j - (m + 1)) * 3 by omega] at h5
      exact h5
  · rw [if_neg hd, List.getElem?_eq_none (by omega)]
    have HH := Lib.hid h; clear h
    go_enter Try.func9, Try.ntmps9
    go_wp2_with (go_at_call 19; refine (core_any _ _ _ _ _ HH.out).mono ?_; rintro r w1 ⟨⟨q, rfl, a, c, rfl, _, _⟩, rfl⟩; rw [show s.l.length - s.did i = 0 by omega])
    refine bodyPost_ret (results_tmp3 rfl _ _ _) rfl ?_
    exact ⟨rfl, HH.out, Only.refl _ _⟩
end Go.Proofs.Ytfekllnalacggaa
