/- Combine: the reference's Elect. -/
import Derived.Test.YtaibhhppdmncfaaCbK
namespace Go.Proofs.Ytaibhhppdmncfaa
open Go.RowKit Go.Maps

abbrev nums (l : List Nat) : List Value := l.map fun (i : Nat) => Value.int .i64 (i : Int)
theorem own_base {w : World} {base : Nat} {e : TypeId} {size n : Nat} {v : Value} {xs : List Value} (h : w.ownsRow base e size v n xs) : ∀ k, v.ownBlock = some k → base ≤ k := by
  intro k hk
  rcases h.2 with ⟨rfl, _⟩ | ⟨g, cap, cur, rfl, hb, _⟩
  · simp [Value.ownBlock] at hk
  · have : g = k := by simpa [Value.ownBlock] using hk
    omega
theorem rdAt_own {w : World} {base : Nat} {v : Value} {l : List Nat} (h : w.ownsRow base 3 1 v l.length (nums l)) : RdAt w v l := by
  rcases h.2 with ⟨hv, h0⟩ | ⟨g, cap, cur, hv, _, hg, hc, _, hs, ht⟩
  · have : l = [] := List.eq_nil_of_length_eq_zero h0
    subst this
    rw [hv]
    exact RdAt.empty_ w
  · refine ⟨_, cap, hv, hc, .inr ⟨g, 0, cur, rfl, hg, by rw [hs]; omega, fun j hj => ?_⟩⟩
    have h1 : (cur.toList.take (l.length * 1))[j]? = (nums l)[j]? := by rw [ht]
    rw [List.getElem?_take_of_lt (by omega), Array.getElem?_toList, List.getElem?_map] at h1
    rw [Nat.zero_add, h1]
    cases l[j]? <;> rfl
/-- The first k slots are taken. -/
def mid (l : List Sl) (k : Nat) : List Sl := l.mapIdx fun j x => if j < k then x.take else x
theorem mid_len (l : List Sl) (k : Nat) : (mid l k).length = l.length := List.length_mapIdx
theorem mid_get {l : List Sl} {k j : Nat} (h : j < (mid l k).length) : (mid l k)[j] = if j < k then (l[j]'(by rw [mid_len] at h; exact h)).take else l[j]'(by rw [mid_len] at h; exact h) := by
  have e : mid l k = l.mapIdx (fun j x => if j < k then x.take else x) := rfl
  rw [List.getElem_of_eq e, List.getElem_mapIdx]
theorem mid_zero (l : List Sl) : mid l 0 = l := by
  apply List.ext_getElem (mid_len l 0)
  intro i h1 h2
  rw [mid_get, if_neg (by omega)]
theorem mid_all (l : List Sl) : mid l l.length = l.map Sl.take := by
  apply List.ext_getElem (by rw [mid_len, List.length_map])
  intro i h1 h2
  rw [mid_get, List.getElem_map, if_pos (by rw [mid_len] at h1; exact h1)]
theorem mid_same {l : List Sl} {k : Nat} (hk : k < l.length) (h : l[k].taken = true) : mid l (k + 1) = mid l k := by
  apply List.ext_getElem (by rw [mid_len, mid_len])
  intro i h1 h2
  rw [mid_get, mid_get]
  by_cases e : i = k
  · subst e
    rw [if_pos (by omega), if_neg (by omega)]
    unfold Sl.take
    rw [← h]
  · by_cases e2 : i < k
    · rw [if_pos (by omega), if_pos e2]
    · rw [if_neg (by omega), if_neg e2]
theorem fresh_snoc {l : List Sl} {k : Nat} (hk : k < l.length) : fresh (l.take (k + 1)) = fresh (l.take k) ++ (if l[k].taken then [] else [l[k].core]) := by
  unfold fresh
  rw [List.take_succ_eq_append_getElem hk, List.filter_append, List.map_append]
  congr 1
  cases h : l[k].taken <;> simp [h]
theorem fresh_nil_take {l : List Sl} (h : fresh l = []) : l.map Sl.take = l := by
  conv => rhs; rw [← List.map_id l]
  refine List.map_congr_left (fun x hx => ?_)
  have : x.taken = true := by
    cases e : x.taken
    · have := mem_fresh.2 ⟨x, hx, rfl, e⟩
      rw [h] at this
      cases this
    · rfl
  unfold Sl.take
  rw [← this]; rfl
theorem info3 : (Try.prog.info? 3).map (fun i => (i.zero, i.size, i.bytes)) = some (some (.int .i64 0), 1, 8) := by kernel_rfl
theorem own_take {w : World} {base g cap k : Nat} {cur : Array Value} {l l' : List Sl} (hbase : base ≤ g) (hg : Blk w g 49 cur) (hc : l.length ≤ cap) (hmax : cap ≤ maxLen) (hsz : cur.size = cap * 12)
    (hext : ∀ a (h : a < l.length), cur.extract (a * 12) (a * 12 + 12) = l[a].cells.toArray) (hk : k < l.length) (hlen : l'.length = l.length)
    (hl : ∀ a (h : a < l.length), l'[a]'(by omega) = if a = k then l[a].take else l[a]) :
    (w.setCell ⟨g, k * 12 + 9, none⟩ (.bool true)).ownsRow base 49 12 (.slice (some ⟨g, 0, none⟩) l.length cap) l.length (flat l') := by
  have hfit : k * 12 + 12 ≤ cur.size := by rw [hsz]; omega
  have := own_mk (l := l') hbase (hg.set_ (k * 12 + 9) (.bool true)) (by omega) hmax (by simpa using hsz) (fun a ha => ?_)
  · rw [hlen] at this
    exact this
  · rw [hl a (by omega)]
    by_cases e : a = k
    · subst e
      rw [if_pos rfl, extract_in hfit (by decide), hext a hk]
      rfl
    · rw [if_neg e, extract_set (by omega)]
      exact hext a (by omega)

set_option maxRecDepth 100000 in
set_option maxHeartbeats 4000000 in
theorem rElect_at (w : World) (base b : Nat) (v : Value) (s : Cb) (i : Int) (ok : s.ok) (h : RefAt w base b v s) : Calls Try.prog 25 #[.pointer (some ⟨b, 0, none⟩), .int .i64 i] w fun r w' =>
    r = .returned (.bool (s.canElect i)) ∧ RefAt w' base b v (s.elect i) ∧ Only (TouchR b v) w w' := by
  have hmine := mine_at w base b v s i ok h
  have HH := Lib.hid h
  have OK := Lib.hid ok
  have h64 := ok.len64
  obtain ⟨⟨q, hb, hq⟩, hv⟩ := h
  have c4 : w.cell? ⟨b, 4, none⟩ = some (whoV s.who) := hb.cell 4
  have hlt := hb.lt
  cases ho : s.own i with
  | false =>
    rw [ho] at hmine
    have hc : s.canElect i = false := by unfold Cb.canElect; rw [ho]; rfl
    have hp : s.elect i = s := by unfold Cb.elect; rw [hc]; rfl
    have HMI := Lib.hid hmine
    have HP := Lib.hid hp
    rw [hc]
    clear hb hq hv hp hmine ho hc ok
    go_enter Try.func25, Try.ntmps25
    go_wp2_with (go_at_call 34; refine (HMI.out).mono ?_; rintro r w' ⟨rfl, rfl⟩)
    go_ret
    refine ⟨rfl, by rw [HP.out]; exact HH.out.below (Below.refl _ w).drew, Only.of_below (Below.refl _ w).drew⟩
  | true =>
    obtain ⟨n, rfl⟩ := Int.eq_ofNat_of_zero_le (Cb.own_nn ho).1
    rw [ho] at hmine
    have HMI := Lib.hid hmine
    cases hw : s.who with
    | some k =>
      have hc : s.canElect (n : Int) = false := by unfold Cb.canElect; rw [hw]; simp
      have hp : s.elect (n : Int) = s := by unfold Cb.elect; rw [hc]; rfl
      have HP := Lib.hid hp
      rw [hw] at c4
      unfold whoV at c4
      have hk0 : (0 : Int) ≤ (k : Int) := Int.natCast_nonneg _
      rw [hc]
      clear hb hq hv hp hmine ho hc ok hw
      go_enter Try.func25, Try.ntmps25
      go_wp2_with (go_at_call 34; refine (HMI.out).mono ?_; rintro r w' ⟨rfl, rfl⟩)
      go_ret
      refine ⟨rfl, by rw [HP.out]; exact HH.out.below (Below.refl _ w).drew, Only.of_below (Below.refl _ w).drew⟩
    | none =>
      rw [hw] at c4
      unfold whoV at c4
      have hne := own_blk_ne' hv hb (by decide)
      obtain ⟨va, vc, rfl⟩ := own_form hv
      have hcan : s.canElect (n : Int) = !(fresh s.l).isEmpty := by unfold Cb.canElect; rw [ho, hw]; simp
      have HCAN := Lib.hid hcan
      have HB := Lib.hid hb
      have HQ := Lib.hid hq
      have HV := Lib.hid hv
      have HNE := Lib.hid hne
      have HW := Lib.hid hw
      obtain ⟨N, hN⟩ : ∃ N, N = s.l.length := ⟨_, rfl⟩
      have HNl := Lib.hid hN
      have h64 : N ≤ 64 := by rw [hN]; exact h64
      obtain ⟨i0, hi0, hz0, hz1, hz2⟩ := info_parts info3
      have hst : w.drew.ownsRow w.heap.size 3 1 (.slice none 0 0) (fresh (s.l.take 0)).length (nums (fresh (s.l.take 0))) ∧ w.drew.ownsRow base 49 12 (.slice va s.l.length vc) s.l.length (flat (mid s.l 0)) ∧ Only (fun j => (Value.slice va s.l.length vc).ownBlock = some j) w w.drew :=
        ⟨⟨rfl, .inl ⟨rfl, rfl⟩⟩, by rw [mid_zero]; exact hv, (Only.refl _ w).drew⟩
      have HST := Lib.hid hst
      have c3 : w.cell? ⟨b, 3, none⟩ = some (.slice va N vc) := by rw [hN]; exact hb.cell 3
      clear hb hq hv hmine ho ok hw hcan hst hN hne
      go_enter Try.func25, Try.ntmps25
      go_wp2_with (go_at_call 34; refine (HMI.out).mono ?_; rintro r w' ⟨rfl, rfl⟩)
      go_loopw [5, 6] (fun u i wr => ∃ k : Nat, k ≤ N ∧ i = .int .i64 k ∧ wr.ownsRow w.heap.size 3 1 u (fresh (s.l.take k)).length (nums (fresh (s.l.take k))) ∧
          wr.ownsRow base 49 12 (.slice va s.l.length vc) s.l.length (flat (mid s.l k)) ∧ Only (fun j => (Value.slice va s.l.length vc).ownBlock = some j) w wr)
        (fun _ i _ => N - (intOf i).toNat)
      case atStart => exact ⟨0, Nat.zero_le _, rfl, HST.out⟩
      case round =>
        obtain ⟨k, hk, rfl, hbat, hrow, hon⟩ := hrel
        clear c3 c4
        have hb3 := HB.out.only hon (fun e => HNE.out b e rfl)
        have hlb := hb3.lt
        have y1 : wr.cell? ⟨b, 3, none⟩ = some (.slice va N vc) := by rw [HNl.out]; exact hb3.cell 3
        have hsz := hon.size
        have hbl : (fresh (s.l.take k)).length ≤ k := by
          unfold fresh
          rw [List.length_map]
          exact Nat.le_trans (List.length_filter_le _ _) (by rw [List.length_take]; omega)
        have HON := Lib.hid hon
        have HB3 := Lib.hid hb3
        by_cases hkN : k < N
        · have hk' : k < s.l.length := by rw [← HNl.out]; exact hkN
          have hrow' : wr.ownsRow base 49 12 (.slice va s.l.length vc) (mid s.l k).length (flat (mid s.l k)) := by rw [mid_len]; exact hrow
          have hrow2 : wr.ownsRow base 49 12 (.slice va (mid s.l k).length vc) (mid s.l k).length (flat (mid s.l k)) := by rw [mid_len]; exact hrow
          obtain ⟨g, cap, cur, e1, hbg, hg, hcap, hmax, hcs, hext⟩ := own_ext hrow2 (by rw [mid_len]; omega)
          obtain ⟨rfl, rfl⟩ : va = some ⟨g, 0, none⟩ ∧ vc = cap := by injection e1 with h1 h2 h3; exact ⟨h1, h3⟩
          have hkm : k < (mid s.l k).length := by rw [mid_len]; exact hk'
          have hek := hext k hkm
          rw [mid_get, if_neg (by omega)] at hek
          have hgb : g ≠ b := HNE.out g rfl
          have hlg := hg.lt
          have hfit : k * 12 + 12 ≤ cur.size := by rw [hcs]; rw [mid_len] at hcap; omega
          have d0 : wr.cell? ⟨g, k * 12, none⟩ = some (.int .i64 (s.l[k].core : Int)) := (hg.cell (k * 12 + 0)).trans (ext_get hek (by decide) hfit)
          have d9 : wr.cell? ⟨g, k * 12 + 9, none⟩ = some (.bool s.l[k].taken) := (hg.cell (k * 12 + 9)).trans (ext_get hek (by decide) hfit)
          obtain ⟨x, hx⟩ : ∃ x, s.l[k] = x := ⟨_, rfl⟩
          obtain ⟨co, tk, hco, htk⟩ : ∃ co tk, s.l[k].core = co ∧ s.l[k].taken = tk := ⟨_, _, rfl, rfl⟩
          rw [hco] at d0
          rw [htk] at d9
          have hkd : decide (N ≤ k) = false := by simpa using hkN
          have hk1 : (k : Int) < (N : Int) := by omega
          have hfs := fresh_snoc hk'
          rw [htk, hco] at hfs
          have HFS := Lib.hid hfs
          have HG := Lib.hid hg
          have HEX := Lib.hid hext
          have HCS := Lib.hid hcs
          have HCAP := Lib.hid hcap
          have HTK := Lib.hid htk
          have HBAT := Lib.hid hbat
          have HROW := Lib.hid hrow
          clear hrow' hrow2 hrow hbat hg hext hcs hcap e1 hx hco htk hfs hek hb3 hon
          cases tk with
          | true =>
            go_wp2_with fail
            go_roundw
            case rel =>
              refine ⟨k + 1, by omega, by go_num, ?_, ?_, HON.out⟩
              · rw [HFS.out]; simpa using HBAT.out
              · rw [mid_same hk' HTK.out]; exact HROW.out
            case measure => simp [intOf]; omega
          | false =>
            have hgn := own_blk_ne HBAT.out HG.out (by decide)
            have hbn := own_blk_ne HBAT.out HB3.out (by decide)
            have HGN := Lib.hid hgn
            have HBN := Lib.hid hbn
            clear hgn hbn
            go_wp2_with (at_builtin; refine wpList_append_own_at _ rfl _ _ 41 rfl w.heap.size 3 i0 _ 1 8 Try.underlying41 hi0 hz0 hz1 hz2 rfl (by decide) _ _ _ rfl (HBAT.out.alloc _) ⟨wr.heap.size, 0, none⟩ 1 1 [.int .i64 (co : Int)] rfl rfl (cell_one_new _ _ _) (fun u hu => by simp at hu; subst hu; rfl) (by unfold maxLen; omega) (by omega) (by simp; omega) ?_; intro v1 w1 own1 gr1 _ at1; have hb1 := (HB3.out.alloc (.cells #[.int .i64 (co : Int)] 3)).grown gr1 (Ne.symm HBN.out); have hg1 := (HG.out.alloc (.cells #[.int .i64 (co : Int)] 3)).grown gr1 (Ne.symm HGN.out); have y2 : w1.cell? ⟨b, 3, none⟩ = some (.slice (some ⟨g, 0, none⟩) N vc) := (by rw [HNl.out]; exact hb1.cell 3); have hlb1 := hb1.lt; have hlg1 := hg1.lt; have f9 := hg1.frozen (k * 12 + 9); have d91 : w1.cell? ⟨g, k * 12 + 9, none⟩ = some (.bool false) := (by rw [← d9]; exact (hg1.cell _).trans (HG.out.cell _).symm); have hsz1 := gr1.size; have OWN1 := Lib.hid own1; have GR1 := Lib.hid gr1; have AT1 := Lib.hid at1; have HB1 := Lib.hid hb1; have HG1 := Lib.hid hg1; clear own1 gr1 at1 hb1 hg1)
            go_roundw
            case rel =>
              have o1 : Only (fun j => (Value.slice (some ⟨g, 0, none⟩) s.l.length vc).ownBlock = some j) w w1 := (HON.out.alloc _).grown GR1.out (fun j hj => .inr (own_base HBAT.out j hj))
              have o2 : Only (· = g) w1 (w1.setCell ⟨g, k * 12 + 9, none⟩ (.bool true)) := (Only.refl (· = g) w1).setCell (p := ⟨g, k * 12 + 9, none⟩) (.inl rfl) _
              refine ⟨k + 1, by omega, by go_num, ?_, ?_, o1.setCell (p := ⟨g, k * 12 + 9, none⟩) (.inl rfl) _⟩
              · have e1 : fresh (s.l.take (k + 1)) = fresh (s.l.take k) ++ [co] := by rw [HFS.out]; rfl
                rw [e1]
                have := own_only OWN1.out o2 (fun j hj e => (own_blk_ne' OWN1.out HG1.out (by decide)) j hj e)
                simpa [nums] using this
              · have := own_take (l := mid s.l k) (l' := mid s.l (k + 1)) hbg HG1.out HCAP.out hmax HCS.out HEX.out hkm (by rw [mid_len, mid_len]) (fun a ha => ?_)
                · rw [mid_len] at this
                  exact this
                · rw [mid_get, mid_get]
                  by_cases e : a = k
                  · subst e
                    rw [if_pos (by omega), if_pos rfl, if_neg (by omega)]
                  · rw [if_neg e]
                    by_cases e2 : a < k
                    · rw [if_pos (by omega), if_pos e2]
                    · rw [if_neg (by omega), if_neg e2]
            case measure => simp [intOf]; omega
        · obtain rfl : k = N := by omega
          have et : s.l.take k = s.l := by rw [HNl.out]; exact List.take_length
          rw [et] at hbat hbl
          have em : mid s.l k = s.l.map Sl.take := by rw [HNl.out]; exact mid_all _
          rw [em] at hrow
          obtain ⟨ua, uc, rfl⟩ := own_form hbat
          have f4 : wr.frozen? ⟨b, 4, none⟩ = false := hb3.frozen 4
          have f5 : wr.frozen? ⟨b, 5, none⟩ = false := hb3.frozen 5
          have c4 : wr.cell? ⟨b, 4, none⟩ = some (whoV s.who) := hb3.cell 4
          have c5 : wr.cell? ⟨b, 5, none⟩ = some q := hb3.cell 5
          have HBAT := Lib.hid hbat
          have HROW := Lib.hid hrow
          rcases Nat.eq_zero_or_pos (fresh s.l).length with hf | hf
          · have hfn : fresh s.l = [] := List.eq_nil_of_length_eq_zero hf
            have hc : s.canElect (n : Int) = false := by rw [HCAN.out, hfn]; rfl
            have hp : s.elect (n : Int) = s := by unfold Cb.elect; rw [hc]; rfl
            have HP := Lib.hid hp
            have HFN := Lib.hid hfn
            have HC := Lib.hid hc
            clear hbat hrow hon hb3 et em hp hc hfn c4 c5
            rw [hf]
            clear hf
            go_wp2_with fail
            go_ret
            refine ⟨by rw [HC.out]; rfl, ?_, HON.out.mono (fun j hj => .inr hj)⟩
            rw [HP.out]
            refine ⟨⟨q, HB3.out, HQ.out.only HON.out (fun g0 c0 hc e => own_blk_ne' HV.out hc (by decide) g0 e rfl)⟩, ?_⟩
            have := HROW.out
            rw [fresh_nil_take HFN.out] at this
            exact this
          · have hc : s.canElect (n : Int) = true := by
              rw [HCAN.out]
              cases hfl : fresh s.l with
              | nil => rw [hfl] at hf; simp at hf
              | cons _ _ => rfl
            have hp : s.elect (n : Int) = { s with l := s.l.map Sl.take, who := some n, batch := fresh s.l } := by unfold Cb.elect; rw [hc, Int.toNat_natCast]; rfl
            have HP := Lib.hid hp
            obtain ⟨F, hF⟩ : ∃ F, F = (fresh s.l).length := ⟨_, rfl⟩
            have HF := Lib.hid hF
            have hF0 : ¬ (F = 0) := by omega
            have hF1 : ((F : Int) == 0) = false := by simpa using hF0
            have HC := Lib.hid hc
            rw [← hF]
            clear hbat hrow hon hb3 et em hp hc hf hF hbl
            go_wp2_with fail
            go_ret
            refine ⟨by rw [HC.out]; rfl, ?_, ((HON.out.mono (fun j hj => .inr hj)).setCell (p := ⟨b, 4, none⟩) (.inl (.inl rfl)) _).setCell (p := ⟨b, 5, none⟩) (.inl (.inl rfl)) _⟩
            rw [HP.out]
            have o2 : Only (· = b) wr ((wr.setCell ⟨b, 4, none⟩ (.int .i64 (n : Int))).setCell ⟨b, 5, none⟩ (.slice ua F uc)) := ((Only.refl (· = b) wr).setCell (p := ⟨b, 4, none⟩) (.inl rfl) _).setCell (p := ⟨b, 5, none⟩) (.inl rfl) _
            refine ⟨⟨.slice ua F uc, ?_, ?_⟩, ?_⟩
            · have := (HB3.out.set_ 4 (.int .i64 (n : Int))).set_ 5 (.slice ua F uc)
              exact this
            · refine (rdAt_own (base := w.heap.size) ?_).only o2 (fun g0 c0 hc e => (hc.ne_ HB3.out (by decide)) e)
              rw [HF.out]
              exact HBAT.out
            · show World.ownsRow _ base 49 12 _ (s.l.map Sl.take).length _
              rw [List.length_map]
              exact own_only HROW.out o2 (fun j hj e => HNE.out j hj e)
end Go.Proofs.Ytaibhhppdmncfaa
