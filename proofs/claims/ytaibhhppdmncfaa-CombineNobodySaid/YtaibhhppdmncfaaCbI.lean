/- Combine: the reference's Release, Deliver. -/
import Derived.Test.YtaibhhppdmncfaaCbH
namespace Go.Proofs.Ytaibhhppdmncfaa
open Go.RowKit Go.Maps

theorem own_blk_ne' {w : World} {base : Nat} {e : TypeId} {size n : Nat} {v : Value} {xs : List Value} {g : Nat} {t : TypeId} {cs : Array Value} (h : w.ownsRow base e size v n xs) (hg : Blk w g t cs) (hne : e ≠ t) : ∀ k, v.ownBlock = some k → k ≠ g := fun k hk e1 => own_blk_ne h hg hne (by rw [hk, e1])
abbrev TouchR (b : Nat) (v : Value) : Nat → Prop := fun k => k = b ∨ v.ownBlock = some k
theorem extract_set {cs : Array Value} {i a n : Nat} {v : Value} (h : a + n ≤ i ∨ i < a) : (cs.setIfInBounds i v).extract a (a + n) = cs.extract a (a + n) := by
  apply Array.ext
  · simp
  · intro j h1 h2
    simp only [Array.size_extract] at h2
    rw [Array.getElem_extract, Array.getElem_extract, Array.getElem_setIfInBounds_ne (by omega) (by omega)]
theorem extract_in {cs : Array Value} {a n j : Nat} {v : Value} (h : a + n ≤ cs.size) (hj : j < n) : (cs.setIfInBounds (a + j) v).extract a (a + n) = (cs.extract a (a + n)).setIfInBounds j v := by
  apply Array.ext
  · simp
  · intro i h1 h2
    simp only [Array.size_extract, Array.size_setIfInBounds] at h1 h2
    by_cases e : i = j
    · subst e
      rw [Array.getElem_extract, Array.getElem_setIfInBounds_self, Array.getElem_setIfInBounds_self]
    · rw [Array.getElem_extract, Array.getElem_setIfInBounds_ne (by omega) (by omega), Array.getElem_setIfInBounds_ne (by simp; omega) (by omega), Array.getElem_extract]
theorem flat_get {l : List Sl} {a j : Nat} (h : a < l.length) (hj : j < 12) : (flat l)[a * 12 + j]? = l[a].cells[j]? := by
  rw [← flat_at l a h, List.getElem?_take_of_lt hj, List.getElem?_drop]
theorem take_flat {cur : Array Value} {l : List Sl} (hs : l.length * 12 ≤ cur.size) (hx : ∀ a (h : a < l.length), cur.extract (a * 12) (a * 12 + 12) = l[a].cells.toArray) : cur.toList.take (l.length * 12) = flat l := by
  apply List.ext_getElem?
  intro i
  by_cases hi : i < l.length * 12
  · have ha : i / 12 < l.length := by omega
    have hj : i % 12 < 12 := by omega
    have e : i = i / 12 * 12 + i % 12 := by omega
    rw [List.getElem?_take_of_lt hi, Array.getElem?_toList]
    have h1 := ext_get (hx _ ha) hj (by omega)
    rw [← e] at h1
    have h2 := flat_get ha hj
    rw [← e] at h2
    rw [h1, h2]
  · rw [List.getElem?_eq_none (by simp; omega), List.getElem?_eq_none (by rw [length_flat]; omega)]
theorem own_mk {w : World} {base g cap : Nat} {cur : Array Value} {l : List Sl} (hbase : base ≤ g) (hg : Blk w g 49 cur) (h1 : l.length ≤ cap) (h2 : cap ≤ maxLen) (hs : cur.size = cap * 12)
    (hx : ∀ a (h : a < l.length), cur.extract (a * 12) (a * 12 + 12) = l[a].cells.toArray) : w.ownsRow base 49 12 (.slice (some ⟨g, 0, none⟩) l.length cap) l.length (flat l) :=
  ⟨length_flat l, .inr ⟨g, cap, cur, rfl, hbase, hg, h1, h2, hs, take_flat (by rw [hs]; exact Nat.mul_le_mul_right 12 h1) hx⟩⟩
theorem own_ext {w : World} {base : Nat} {v : Value} {l : List Sl} (h : w.ownsRow base 49 12 v l.length (flat l)) (hne : 0 < l.length) :
    ∃ g cap cur, v = .slice (some ⟨g, 0, none⟩) l.length cap ∧ base ≤ g ∧ Blk w g 49 cur ∧ l.length ≤ cap ∧ cap ≤ maxLen ∧ cur.size = cap * 12 ∧ ∀ a (h : a < l.length), cur.extract (a * 12) (a * 12 + 12) = l[a].cells.toArray := by
  have h0 := h
  rcases h.2 with ⟨_, h0⟩ | ⟨g, cap, cur, rfl, hb, hg, hc, hm, hs, ht⟩
  · omega
  · refine ⟨g, cap, cur, rfl, hb, hg, hc, hm, hs, fun a ha => ?_⟩
    obtain ⟨g', cap', cur', e1, e2, e3, _⟩ := own_sl h0 ha
    obtain ⟨rfl, rfl⟩ : g = g' ∧ cap = cap' := by injection e1 with e1 _ e3; injection e1 with e1; injection e1 with e1; exact ⟨e1, e3⟩
    have := Blk.eq hg e2
    rw [this]; exact e3

theorem RefAt.who {w : World} {base b : Nat} {v : Value} {s : Cb} (h : RefAt w base b v s) (k : Option Nat) : RefAt (w.setCell ⟨b, 4, none⟩ (whoV k)) base b v { s with who := k } := by
  obtain ⟨⟨q, hb, hq⟩, hv⟩ := h
  have ho : Only (· = b) w (w.setCell ⟨b, 4, none⟩ (whoV k)) := (Only.refl (· = b) w).setCell (p := ⟨b, 4, none⟩) (.inl rfl) _
  exact ⟨⟨q, hb.set_ 4 (whoV k), hq.only ho (fun g cur hc e => (hc.ne_ hb (by decide)) e)⟩, own_only hv ho (fun j hj e => (own_blk_ne' hv hb (by decide)) j hj e)⟩
theorem rRelease_at (w : World) (base b : Nat) (v : Value) (s : Cb) (i : Int) (ok : s.ok) (h : RefAt w base b v s) : Calls Try.prog 28 #[.pointer (some ⟨b, 0, none⟩), .int .i64 i] w fun r w' =>
    r = .returned (.int .i64 (s.releaseE i)) ∧ RefAt w' base b v (s.release i) ∧ Only (TouchR b v) w w' := by
  have HN := Lib.hid (rNext_at w base b v s ok h ok.len64)
  have HH := Lib.hid h
  obtain ⟨⟨q, hb, hq⟩, hv⟩ := h
  have hlt := hb.lt
  have c4 : w.cell? ⟨b, 4, none⟩ = some (whoV s.who) := hb.cell 4
  have HB := Lib.hid hb
  unfold Cb.releaseE
  cases hw : s.who with
  | none =>
    have hp : s.release i = s := by unfold Cb.release Cb.mayRelease; rw [hw]; rfl
    have hmr : s.mayRelease i = false := by unfold Cb.mayRelease; rw [hw]
    rw [hw] at c4
    unfold whoV at c4
    have HP := Lib.hid hp
    rw [hmr]
    clear hb hq hv hp hmr hw
    simp only [Bool.false_eq_true, if_false]
    go_enter Try.func28, Try.ntmps28
    go_wp2_with fail
    go_ret
    exact ⟨rfl, by rw [HP.out]; exact HH.out, Only.refl _ _⟩
  | some k =>
    rw [hw] at c4
    unfold whoV at c4
    have hk0 : decide ((k : Int) < 0) = false := by simp
    by_cases hk : i = (k : Int)
    · subst hk
      have hmr : s.mayRelease (k : Int) = true := by unfold Cb.mayRelease; rw [hw]; simp
      rw [hmr]
      have hn := HN.out
      unfold nextV at hn
      cases hbt : s.batch with
      | nil =>
        have hp : s.release (k : Int) = { s with who := none } := by unfold Cb.release; rw [hmr, hbt]; rfl
        have HP := Lib.hid hp
        rw [hbt] at hn
        simp only [zentV, entV, Cl.cells, List.cons_append, List.nil_append] at hn
        have HN2 := Lib.hid hn
        clear hb hq hp hmr hw hbt hn HN
        simp only [if_true, List.isEmpty_nil]
        go_enter Try.func28, Try.ntmps28
        go_wp2_with (go_at_call 30; refine (HN2.out).mono ?_; rintro r w1 ⟨rfl, B1⟩; have hb1 := HB.out.below B1 hlt; have hl1 := hb1.lt; have c4w : w1.cell? ⟨b, 4, none⟩ = some (whoV s.who) := hb1.cell 4; have f4 : w1.frozen? ⟨b, 4, none⟩ = false := hb1.frozen 4)
        go_ret
        refine ⟨rfl, ?_, ?_⟩
        · rw [HP.out]
          exact ((HH.out.below B1).who none).below ((Below.refl _ _).alloc (Nat.le_refl _) _)
        · exact ((Only.of_below B1).setCell (p := ⟨b, 4, none⟩) (.inl (.inl rfl)) _).alloc _
      | cons j t =>
        have hp : s.release (k : Int) = s := by unfold Cb.release; rw [hmr, hbt]; rfl
        have HP := Lib.hid hp
        rw [hbt] at hn
        simp only [entV, Cl.cells, List.cons_append, List.nil_append] at hn
        have HN2 := Lib.hid hn
        clear hb hq hp hmr hw hbt hn HN
        simp only [if_true, List.isEmpty_cons, Bool.false_eq_true, if_false]
        go_enter Try.func28, Try.ntmps28
        go_wp2_with (go_at_call 30; refine (HN2.out).mono ?_; rintro r w1 ⟨rfl, B1⟩)
        go_ret
        refine ⟨rfl, ?_, ?_⟩
        · rw [HP.out]; exact HH.out.below (B1.alloc B1.size _)
        · exact Only.of_below (B1.alloc B1.size _)
    · have hmr : s.mayRelease i = false := by unfold Cb.mayRelease; rw [hw]; simp; omega
      have hp : s.release i = s := by unfold Cb.release; rw [hmr]; rfl
      have hk' : (i != (k : Int)) = true := by simpa using hk
      have HP := Lib.hid hp
      rw [hmr]
      clear hb hq hv hp hmr hw hk
      simp only [Bool.false_eq_true, if_false]
      go_enter Try.func28, Try.ntmps28
      go_wp2_with fail
      go_ret
      exact ⟨rfl, by rw [HP.out]; exact HH.out, Only.refl _ _⟩

theorem srt_ne {l : List Sl} (h : Srt l) {a k : Nat} (ha : a < l.length) (hk : k < l.length) (hne : a ≠ k) : l[a].core ≠ l[k].core := by
  have hp := List.pairwise_iff_getElem.1 h
  rcases Nat.lt_or_ge a k with h1 | h1
  · have := hp a k ha hk h1; omega
  · have := hp k a hk ha (by omega); omega
theorem RefAt.tell {w : World} {base b g cap k i : Nat} {s : Cb} {cur : Array Value} {idx : Int} {q q' : Value} {t : List Nat} (hs : Srt s.l) (hk : k < s.l.length) (hki : (s.l[k].core : Int) = (i : Int))
    (hb : Blk w b 43 #[.int .i64 (s.node : Int), .int .i64 (s.nodes : Int), .int .i64 (s.cores : Int), .slice (some ⟨g, 0, none⟩) s.l.length cap, whoV s.who, q]) (hg : Blk w g 49 cur) (hbase : base ≤ g) (hcap : s.l.length ≤ cap) (hmax : cap ≤ maxLen) (hsz : cur.size = cap * 12)
    (hext : ∀ a (h : a < s.l.length), cur.extract (a * 12) (a * 12 + 12) = s.l[a].cells.toArray) (hq : RdAt w q' t) :
    RefAt (((w.setCell ⟨g, k * 12 + 10, none⟩ (.bool true)).setCell ⟨g, k * 12 + 11, none⟩ (.int .i64 idx)).setCell ⟨b, 5, none⟩ q') base b (.slice (some ⟨g, 0, none⟩) s.l.length cap) { s with l := s.l.map (Sl.tell i idx), batch := t } := by
  have hgb := hg.ne_ hb (by decide)
  have hfit : k * 12 + 12 ≤ cur.size := by rw [hsz]; omega
  have o1 : Only (fun j => j = g ∨ j = b) w (((w.setCell ⟨g, k * 12 + 10, none⟩ (.bool true)).setCell ⟨g, k * 12 + 11, none⟩ (.int .i64 idx)).setCell ⟨b, 5, none⟩ q') :=
    (((Only.refl _ w).setCell (p := ⟨g, k * 12 + 10, none⟩) (.inl (.inl rfl)) _).setCell (p := ⟨g, k * 12 + 11, none⟩) (.inl (.inl rfl)) _).setCell (p := ⟨b, 5, none⟩) (.inl (.inr rfl)) _
  have hg1 := ((hg.set_ (k * 12 + 10) (.bool true)).set_ (k * 12 + 11) (.int .i64 idx)).far (p := ⟨b, 5, none⟩) hgb q'
  have hb1 := ((hb.far (p := ⟨g, k * 12 + 10, none⟩) (Ne.symm hgb) (.bool true)).far (p := ⟨g, k * 12 + 11, none⟩) (Ne.symm hgb) (.int .i64 idx)).set_ 5 q'
  refine ⟨⟨q', hb1, hq.only o1 (fun j cur' hc e => ?_)⟩, ?_⟩
  · rcases e with e | e
    · exact (hc.ne_ hg (by decide)) e
    · exact (hc.ne_ hb (by decide)) e
  · have hlen : (s.l.map (Sl.tell i idx)).length = s.l.length := List.length_map _
    simp only
    have := own_mk (l := s.l.map (Sl.tell i idx)) hbase hg1 (by rw [hlen]; exact hcap) hmax (by simpa using hsz) (fun a ha => ?_)
    · rw [hlen] at this
      rw [hlen]
      exact this
    · rw [hlen] at ha
      rw [List.getElem_map]
      unfold Sl.tell
      by_cases e : a = k
      · subst e
        rw [if_pos (by omega), extract_in (by simpa using hfit) (by decide), extract_in hfit (by decide), hext a hk]
        rfl
      · rw [if_neg (by have := srt_ne hs ha hk e; omega), extract_set (by omega), extract_set (by omega)]
        exact hext a ha
set_option maxHeartbeats 2000000 in
theorem rDeliver_at (w : World) (base b : Nat) (v : Value) (s : Cb) (idx : Int) (ok : s.ok) (h : RefAt w base b v s) : Calls Try.prog 26 #[.pointer (some ⟨b, 0, none⟩), .int .i64 idx] w fun r w' =>
    r = .returned (.int .i64 (s.deliverE idx)) ∧ RefAt w' base b v (s.deliver idx) ∧ Only (TouchR b v) w w' := by
  have HN := Lib.hid (rNext_at w base b v s ok h ok.len64)
  have HH := Lib.hid h
  obtain ⟨⟨q, hb, hq⟩, hv⟩ := h
  have hlt := hb.lt
  have HB := Lib.hid hb
  unfold Cb.deliverE
  by_cases h0 : idx < 0
  · rw [if_pos h0]
    have hp : s.deliver idx = s := by unfold Cb.deliver; rw [if_pos h0]
    have HP := Lib.hid hp
    clear hb hq hv hp
    go_enter Try.func26, Try.ntmps26
    go_wp2_with fail
    go_ret
    exact ⟨rfl, by rw [HP.out]; exact HH.out, Only.refl _ _⟩
  · rw [if_neg h0]
    have h0' : decide (idx < 0) = false := by simpa using h0
    have hn := HN.out
    unfold nextV at hn
    cases hbt : s.batch with
    | nil =>
      have hp : s.deliver idx = s := by unfold Cb.deliver; rw [if_neg h0, hbt]
      have HP := Lib.hid hp
      rw [hbt] at hn
      simp only [zentV, entV, Cl.cells, List.cons_append, List.nil_append] at hn
      have HN2 := Lib.hid hn
      clear hb hq hv hp hbt hn HN h0
      simp only
      go_enter Try.func26, Try.ntmps26
      go_wp2_with (go_at_call 30; refine (HN2.out).mono ?_; rintro r w1 ⟨rfl, B1⟩)
      go_ret
      refine ⟨rfl, ?_, ?_⟩
      · rw [HP.out]; exact HH.out.below (B1.alloc B1.size _)
      · exact Only.of_below (B1.alloc B1.size _)
    | cons i t =>
      have hp : s.deliver idx = { s with l := s.l.map (Sl.tell i idx), batch := t } := by unfold Cb.deliver; rw [if_neg h0, hbt]
      have HP := Lib.hid hp
      rw [hbt] at hn hq
      simp only [entV, Cl.cells, List.cons_append, List.nil_append] at hn
      have HN2 := Lib.hid hn
      obtain ⟨g0, off, c, rfl, hc, c0, ⟨cur0, hg0⟩, hrd, hrd0⟩ := hq.head
      have hlg0 := hg0.lt
      obtain ⟨x, hx, hxi, _⟩ := ok.bat i (by rw [hbt]; exact List.mem_cons_self)
      have hs : slotAt s.l i = some x := by rw [← hxi]; exact slotAt_mem ok.srt hx
      rcases place_cases s.l (i : Int) with ⟨_, h3⟩ | ⟨k, hk, h2, hki, h3⟩
      · rw [find_slot, hs] at h3; cases h3
      · obtain ⟨g, cap, cur, rfl, hbase, hg, hcap, hmax, hsz, hext⟩ := own_ext hv (by omega)
        have hlg := hg.lt
        have hgb := (own_blk_ne' hv hb (by decide)) g rfl
        have hg0b := hg0.ne_ hb (by decide)
        have hg0g := hg0.ne_ hg (by decide)
        have hp0 : (∀ W, Below w.heap.size w W → Calls Try.prog 35 #[.pointer (some ⟨b, 0, none⟩), .int .i64 (i : Int)] W fun r w' => r = .returned (.int .i64 (k : Int)) ∧ W = w') := fun W hW => by
          have := place_at W base b _ s (i : Int) (HH.out.below hW) ok.len64
          rw [h2] at this
          exact this
        have HPL := Lib.hid hp0
        have hfit : k * 12 + 12 ≤ cur.size := by rw [hsz]; omega
        have hkk := hk
        have OKL := ok.len64
        obtain ⟨N, hN⟩ : ∃ N, N = s.l.length := ⟨_, rfl⟩
        have HNl := Lib.hid hN
        rw [← hN] at hk hcap OKL
        simp only [← hN] at HB hv
        have hkN : decide (N ≤ k) = false := by simpa using hk
        have HG := Lib.hid hg
        have HG0 := Lib.hid hg0
        have HEX := Lib.hid hext
        have HRD := Lib.hid hrd
        have HRD0 := Lib.hid hrd0
        have HKI := Lib.hid hki
        have OK := Lib.hid ok
        clear hb hq hv hp hbt hn HN h0 hN hg hg0 hext hrd hrd0 hs h2 h3 hp0 hki hx ok
        simp only
        go_enter Try.func26, Try.ntmps26
        go_wp2_with (first
          | (go_at_call 30; refine (HN2.out).mono ?_; rintro r w1 ⟨rfl, B1⟩; have hb1 := HB.out.below B1 hlt; have hl1 := hb1.lt; have hg1 := HG.out.below B1 hlg; have hlg1 := hg1.lt; have hg01 := HG0.out.below B1 hlg0; have hlg01 := hg01.lt; have c3 : w1.cell? ⟨b, 3, none⟩ = some (.slice (some ⟨g, 0, none⟩) N cap) := hb1.cell 3; have c5 : w1.cell? ⟨b, 5, none⟩ = some (.slice (some ⟨g0, off, none⟩) (t.length + 1) c) := hb1.cell 5; have f5 : w1.frozen? ⟨b, 5, none⟩ = false := hb1.frozen 5; have c0w : w1.cell? ⟨g0, off, none⟩ = some (.int .i64 (i : Int)) := by rw [← c0]; exact (hg01.cell off).trans (HG0.out.cell off).symm)
          | (go_at_call 35; refine (HPL.out _ (B1.alloc B1.size _)).mono ?_; rintro r w' ⟨rfl, rfl⟩; have k10 : w1.cell? ⟨g, k * 12 + 10, none⟩ = _ := (hg1.cell _).trans (ext_get (HEX.out k hkk) (by decide : 10 < 12) hfit); have k11 : w1.cell? ⟨g, k * 12 + 11, none⟩ = _ := (hg1.cell _).trans (ext_get (HEX.out k hkk) (by decide : 11 < 12) hfit); have f10 := hg1.frozen (k * 12 + 10); have f11 := hg1.frozen (k * 12 + 11); simp only [Sl.cells, List.getElem?_cons_succ, List.getElem?_cons_zero] at k10 k11))
        all_goals
          go_ret
          refine ⟨rfl, ?_, ?_⟩
          · rw [HP.out]
            refine RefAt.below (RefAt.tell OK.out.srt hkk HKI.out (HNl.out ▸ hb1) hg1 hbase (HNl.out ▸ hcap) hmax hsz HEX.out ?_) ((Below.refl _ _).alloc (Nat.le_refl _) _)
            first
              | exact HRD.out.only (S := fun _ => False) (Only.of_below B1) (fun _ _ _ h => h)
              | exact (HRD0.out (by first | assumption | omega)).only (S := fun _ => False) (Only.of_below B1) (fun _ _ _ h => h)
          · exact ((((Only.of_below B1).setCell (p := ⟨g, k * 12 + 10, none⟩) (.inl (.inr rfl)) _).setCell (p := ⟨g, k * 12 + 11, none⟩) (.inl (.inr rfl)) _).setCell (p := ⟨b, 5, none⟩) (.inl (.inl rfl)) _).alloc _
end Go.Proofs.Ytaibhhppdmncfaa
