/- Script: the program's Parse, of a text of items. -/
import Derived.Test.YtccoafacbbkooaaGreatDoorScPd
namespace Go.Proofs.YtccoafacbbkooaaGreatDoor
open Go.RowKit Go.Maps

def flatI (l : List Itm) : List Value := l.flatMap (·.arr.toList)
theorem flatI_snoc (l : List Itm) (x : Itm) : flatI (l ++ [x]) = flatI l ++ x.arr.toList := by simp [flatI]
theorem flatI_len (l : List Itm) : (flatI l).length = l.length * 14 := by
  induction l with
  | nil => rfl
  | cons x r ih =>
    have h1 : x.arr.toList.length = 14 := rfl
    have h2 : flatI (x :: r) = x.arr.toList ++ flatI r := rfl
    rw [h2, List.length_append, h1, ih, List.length_cons]
    omega
theorem flatI_at : ∀ (l : List Itm) (i j : Nat) (a : Itm) (v : Value), l[i]? = some a → a.arr[j]? = some v → (flatI l)[i * 14 + j]? = some v
  | [], i, j, a, v, h, _ => by simp at h
  | x :: r, 0, j, a, v, h, hv => by
    have e : x = a := by simpa using h
    subst e
    have hj : j < 14 := (Array.getElem?_eq_some_iff.1 hv).1
    have h2 : flatI (x :: r) = x.arr.toList ++ flatI r := rfl
    rw [h2, Nat.zero_mul, Nat.zero_add, List.getElem?_append_left (by exact hj)]
    simpa using hv
  | x :: r, i + 1, j, a, v, h, hv => by
    have ih := flatI_at r i j a v (by simpa using h) hv
    have h1 : x.arr.toList.length = 14 := rfl
    have h2 : flatI (x :: r) = x.arr.toList ++ flatI r := rfl
    rw [h2, List.getElem?_append_right (by rw [h1]; omega), h1, ← ih]
    congr 1
    omega
theorem flatI_one (l : List Itm) : ∀ u ∈ flatI l, u.oneCell' = true := by
  intro u hu
  unfold flatI at hu
  obtain ⟨x, _, hx⟩ := List.mem_flatMap.1 hu
  simp only [Itm.arr, List.mem_cons, List.not_mem_nil, or_false] at hx
  rcases hx with rfl | rfl | rfl | rfl | rfl | rfl | rfl | rfl | rfl | rfl | rfl | rfl | rfl | rfl <;> rfl
theorem items_of_own {w : World} {base n : Nat} {v : Value} {l : List Itm} (h : w.ownsRow base 29 14 v n (flatI l)) (hn : n = l.length) (hb : l.length * 112 ≤ 140737488351232) :
    ∃ A c, v = .slice A n c ∧ ItemsAt w A l := by
  rcases h.2 with ⟨hv, h0⟩ | ⟨g, c, cur, hv, hb2, hg, hc, _, hs, ht⟩
  · exact ⟨none, 0, by rw [hv, h0], hb, fun h1 => by omega⟩
  · have hB : Blk w g 29 cur := hg
    refine ⟨some ⟨g, 0, none⟩, c, hv, hb, fun h1 => ⟨g, 0, rfl, hB.lt, fun i a hi j u hu => ?_⟩⟩
    have h2 := flatI_at l i j a u hi hu
    have hlt : i * 14 + j < n * 14 := by
      have h3 := (List.getElem?_eq_some_iff.1 h2).1
      rw [flatI_len] at h3
      omega
    rw [hB.cell, Nat.zero_add]
    rw [← ht, List.getElem?_take_of_lt (by omega)] at h2
    simpa using h2
theorem infoI : (Tryz.prog.info? 29).map (fun i => (i.zero, i.size, i.bytes)) = some (some (.agg i0.arr), 14, 112) := by kernel_rfl
theorem bsP (n : Nat) (ps : Array (Nat × Value)) : Instr.buildSlice 37 n ps = bsl 37 n ps := rfl
set_option maxRecDepth 100000 in
theorem run_bsP (w : World) (vs : Array Value) (hs : vs.size = 14) : (bsl 37 1 #[(0, .agg vs)]).run Tryz.prog w = .ok (.slice (some ⟨w.heap.size, 0, none⟩) 1 1) (w.alloc (.cells vs 29)) := by
  obtain ⟨i, hi, hz⟩ : ∃ i, Tryz.prog.info? 29 = some i ∧ (i.zero.isSome && i.size == 14) = true := ⟨_, rfl, by kernel_rfl⟩
  simp only [Bool.and_eq_true, beq_iff_eq, Option.isSome_iff_exists] at hz
  obtain ⟨⟨z, hz⟩, h9⟩ := hz
  exact run_buildSlice_one w 37 29 vs i z Tryz.underlying37 hi hz (by omega) (by omega) (by omega)
attribute [go_sem ↓] bsP
attribute [go_sem] run_bsP
theorem news_item (w : World) (x : Itm) : ∀ j u, x.arr.toList[j]? = some u → (w.alloc (.cells x.arr 29)).cell? ((⟨w.heap.size, 0, none⟩ : Addr).add j) = some u := by
  intro j u hj
  rw [add_zero_off, (Blk.new w 29 x.arr).cell]
  simpa using hj

set_option maxRecDepth 100000 in
set_option maxHeartbeats 8000000 in
theorem parse_w (w : World) (xs : List Itm) (t : Wd) (hcat : catL xs = some t) (hW : ∀ x ∈ xs, Wide x) (hx : xs.length ≤ 4096) (hlen : t.length ≤ 262144) (hm : MaxAt w) :
    Calls Tryz.prog 12 #[.string (bs t)] w fun e w' => (∃ A c, e = .returned (.tuple #[.slice A xs.length c, .int .i64 0, .int .i64 0]) ∧ ItemsAt w' A xs) ∧ Below w.heap.size w w' := by
  obtain ⟨i1, hi1, hz0, hz1, hz2⟩ := info_parts infoI
  have HI1 := Lib.hid hi1
  have hsp := split10_w w t hm (by omega)
  have hL := lines_of hcat
  have hmem := catL_mem hcat
  obtain ⟨L, hLL⟩ : ∃ L, cutL 10 t = L := ⟨_, rfl⟩
  rw [hLL] at hsp hL
  obtain ⟨s, hs⟩ : ∃ s, bs t = s := ⟨_, rfl⟩
  have hsz : s.size ≤ 262144 := by rw [← hs, bs_size]; exact hlen
  rw [hs] at hsp ⊢
  obtain ⟨N, hN⟩ : ∃ N, xs.length = N := ⟨_, rfl⟩
  have hLn : L.length = N + 1 := by rw [hL]; simp [hN]
  rw [hLn] at hsp
  have HN := Lib.hid hN
  have HSP := Lib.hid hsp
  have HL := Lib.hid hL
  have HMEM := Lib.hid hmem
  have HW := Lib.hid hW
  have HM := Lib.hid hm
  rw [hN] at hx ⊢
  clear hi1 hsp hL hmem hW hm hN hLL hs hLn hlen hcat
  go_enter Tryz.func12, Tryz.ntmps12
  go_wp2_with (go_at_call 17; refine (HSP.out).mono ?_; rintro e w1 ⟨rfl, hw1⟩; have P1 : Blk w1 w.heap.size 9 (strs L).toArray := (by rw [hw1]; exact Blk.new _ _ _); have B1 : Below w.heap.size w w1 := (by rw [hw1]; exact (Below.refl _ _).alloc (Nat.le_refl _) _); clear hw1)
  have hcell : ∀ k (hk : k < N), w1.cell? ⟨w.heap.size, k, none⟩ = some (.string (bs (lineP (xs[k]'(by rw [HN.out]; exact hk))))) := by
    intro k hk
    rw [P1.cell, HL.out]
    have hk' : k < xs.length := by rw [HN.out]; exact hk
    simp [strs, List.getElem?_append_left, hk']
  have hlast : w1.cell? ⟨w.heap.size, N, none⟩ = some (.string (bs [])) := by
    rw [P1.cell, HL.out]
    have := HN.out
    simp [strs, this]
  have hlt1 := P1.lt
  have HC := Lib.hid hcell
  have HLA := Lib.hid hlast
  have HB1 := Lib.hid B1
  have HP1 := Lib.hid P1
  clear hcell hlast B1 P1
  go_loopw [6, 21] (fun n i wr => w1 = wr ∧ ((∃ k : Nat, k ≤ N ∧ i = .int .i64 k ∧ n = .int .i64 k) ∨ (i = .int .i64 ((N : Int) + 1) ∧ n = .int .i64 N))) (fun _ i _ => N + 1 - (intOf i).toNat)
  case atStart => exact ⟨rfl, .inl ⟨0, Nat.zero_le _, rfl, rfl⟩⟩
  case round =>
    obtain ⟨rfl, hcase⟩ := hrel
    rcases hcase with ⟨k, hk, rfl, rfl⟩ | ⟨rfl, rfl⟩
    · by_cases hlt : k < N
      · have d1 := HC.out k hlt
        have hpl := plain_not (HMEM.out _ (List.getElem_mem (by rw [HN.out]; exact hlt)))
        obtain ⟨l, hl⟩ : ∃ l, lineP (xs[k]'(by rw [HN.out]; exact hlt)) = l := ⟨_, rfl⟩
        rw [hl] at d1 hpl
        have hlt2 : k < N + 1 := by omega
        have hpw := fun (W : World) => plain_w l W
        simp only [hpl] at hpw
        have HPW := Lib.hid hpw
        clear hpw hpl hl
        go_wp2_with (go_at_call 22; refine (HPW.out _).mono ?_; rintro e w2 ⟨rfl, rfl⟩)
        go_roundw
        case rel => exact ⟨trivial, .inl ⟨k + 1, by omega, by go_num, by go_num⟩⟩
        case measure => (simp [intOf]; try omega)
      · obtain rfl : k = N := by omega
        have d1 := HLA.out
        have hlt2 : k < k + 1 := by omega
        have hpw := fun (W : World) => plain_w [] W
        have e1 : plainL [] = true := rfl
        simp only [e1] at hpw
        have HPW := Lib.hid hpw
        clear hpw e1
        go_wp2_with (go_at_call 22; refine (HPW.out _).mono ?_; rintro e w2 ⟨rfl, rfl⟩)
        go_roundw
        case rel => exact ⟨trivial, .inr ⟨rfl, rfl⟩⟩
        case measure => (simp [intOf]; try omega)
    · have hd : decide ((N : Int) + 1 < (N : Int) + 1) = false := by simp
      go_wp2_with fail
      go_loopw [9, 35] (fun v i wr => ∃ m : Nat, ((m ≤ N ∧ i = .int .i64 m) ∨ (m = N ∧ i = .int .i64 ((N : Int) + 1))) ∧ wr.ownsRow w1.heap.size 29 14 v m (flatI (xs.take m)) ∧ Below w1.heap.size w1 wr) (fun _ i _ => N + 1 - (intOf i).toNat)
      case atStart => exact ⟨0, .inl ⟨Nat.zero_le _, rfl⟩, ⟨rfl, .inl ⟨rfl, rfl⟩⟩, Below.refl _ _⟩
      case round =>
        obtain ⟨m, hcase, hown, hbel⟩ := hrel
        have hbs := hbel.size
        have HOWN := Lib.hid hown
        have HBEL := Lib.hid hbel
        clear hown hbel
        rcases hcase with ⟨hk, rfl⟩ | ⟨rfl, rfl⟩
        · by_cases hlt : m < N
          · have hml : m < xs.length := by rw [HN.out]; exact hlt
            have d0 := HC.out m hlt
            have d1 := (HBEL.out.cell (p := ⟨w.heap.size, m, none⟩) hlt1).trans d0
            have hmm := HMEM.out _ (List.getElem_mem hml)
            have hpl := plain_not hmm
            have hrd := (LineP_some hmm).2
            have hwx := lineP_len _ (HW.out _ (List.getElem_mem hml))
            have hstep : flatI (xs.take (m + 1)) = flatI (xs.take m) ++ (xs[m]).arr.toList := by rw [List.take_succ_eq_append_getElem hml, flatI_snoc]
            obtain ⟨x, hxx⟩ : ∃ x, xs[m] = x := ⟨_, rfl⟩
            rw [hxx] at d1 hpl hrd hwx hstep
            obtain ⟨l, hl⟩ : ∃ l, lineP x = l := ⟨_, rfl⟩
            rw [hl] at d1 hpl hrd hwx
            have hlt2 : m < N + 1 := by omega
            have hpw := fun (W : World) => plain_w l W
            simp only [hpl] at hpw
            have hrw := fun (W : World) (hM : MaxAt W) => read_w W l hM (by omega)
            have e2 : resV (some x) = .tuple #[.agg x.arr, .int .i64 0] := rfl
            simp only [hrd, e2] at hrw
            have hone : ∀ u ∈ x.arr.toList, u.oneCell' = true := fun u hu => flatI_one [x] u (by simpa [flatI] using hu)
            have hnews := fun (w : World) => news_item w x
            have HPW := Lib.hid hpw
            have HRW := Lib.hid hrw
            have HST := Lib.hid hstep
            have HON := Lib.hid hone
            have HNW := Lib.hid hnews
            have HM1 := Lib.hid (HM.out.below HB1.out)
            clear hpw hpl hl hrw hrd e2 hstep hone hnews hmm d0 hxx hml hwx
            go_wp2_with (first
              | (go_at_call 22; refine (HPW.out _).mono ?_; rintro e w2 ⟨rfl, rfl⟩)
              | (go_at_call 8; refine (HRW.out _ (HM1.out.below HBEL.out)).mono ?_; rintro e w2 ⟨rfl, B⟩; have HB2 := Lib.hid (HBEL.out.trans (B.mono HBEL.out.size)); have HO2 := Lib.hid (own_below HOWN.out B); clear B)
              | (at_builtin; refine wpList_append_own_at _ rfl _ _ 37 rfl w1.heap.size 29 i1 _ 14 112 Tryz.underlying37 HI1.out hz0 hz1 hz2 rfl (by decide) _ _ _ rfl (own_below (own_below HO2.out ((Below.refl _ _).alloc (Nat.le_refl _) _)) ((Below.refl _ _).alloc (Nat.le_refl _) _)) ⟨w2.heap.size + 1, 0, none⟩ 1 1 x.arr.toList rfl rfl (by have h := HNW.out (w2.alloc (.cells x.arr 29)); rw [World.size_alloc] at h; exact h) HON.out (by unfold maxLen; omega) (by omega) (by have := HB2.out.size; simp; omega) ?_; intro v3 w3 own3 gr3 _ _; have HB3 := Lib.hid (below_grown ((HB2.out.alloc HB2.out.size _).alloc (by have := HB2.out.size; simp; omega) _) (Nat.le_refl _) gr3 (own_base HO2.out)); have HO3 := Lib.hid own3; clear own3 gr3))
            go_roundw
            case rel => exact ⟨m + 1, .inl ⟨by omega, by go_num⟩, by rw [HST.out]; exact HO3.out, HB3.out⟩
            case measure => (simp [intOf]; try omega)
          · obtain rfl : m = N := by omega
            have d1 := (HBEL.out.cell (p := ⟨w.heap.size, m, none⟩) hlt1).trans HLA.out
            have hlt2 : m < m + 1 := by omega
            have hpw := fun (W : World) => plain_w [] W
            have e1 : plainL [] = true := rfl
            simp only [e1] at hpw
            have HPW := Lib.hid hpw
            clear hpw e1
            go_wp2_with (go_at_call 22; refine (HPW.out _).mono ?_; rintro e w2 ⟨rfl, rfl⟩)
            go_roundw
            case rel => exact ⟨m, .inr ⟨rfl, rfl⟩, HOWN.out, HBEL.out⟩
            case measure => (simp [intOf]; try omega)
        · have hd2 : decide ((m : Int) + 1 < (m : Int) + 1) = false := by simp
          have htk : xs.take m = xs := by rw [← HN.out, List.take_length]
          have hit := items_of_own HOWN.out (by rw [htk, HN.out]) (by rw [htk, HN.out]; omega)
          rw [htk] at hit
          obtain ⟨A, c, rfl, hit⟩ := hit
          have HIT := Lib.hid hit
          clear hit htk
          go_wp2_with fail
          go_ret3
          exact ⟨⟨A, c, rfl, HIT.out⟩, HB1.out.trans (HBEL.out.mono (HB1.out.size))⟩
end Go.Proofs.YtccoafacbbkooaaGreatDoor
