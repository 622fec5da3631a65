/- Combine: Holder, place, Index, New. -/
import Derived.Test.YtaibhhppdmncfaaCbA
namespace Go.Proofs.Ytaibhhppdmncfaa
open Go.RowKit Go.Maps

def holdV : Option Nat → Value
  | some i => .tuple #[.int .i64 (i : Int), .bool true]
  | none => .tuple #[.int .i64 0, .bool false]
theorem holder_no (w : World) (p : Option Addr) (h : Calls Try.prog 23 #[.pointer p] w fun r w' => r = .returned (.bool false) ∧ w = w') : Calls Try.prog 14 #[.pointer p] w fun r w' => r = .returned (.tuple #[.int .i64 0, .bool false]) ∧ w = w' := by
  have H := Lib.hid h; clear h
  go_enter Try.func14, Try.ntmps14
  go_wp2_with (go_at_call 23; refine (H.out).mono ?_; rintro r w' ⟨rfl, rfl⟩)
  go_ret2
  exact ⟨rfl, rfl⟩
theorem holder_at (w : World) (b m : Nat) (s : Cb) (h : CbAt w b m s) : Calls Try.prog 14 #[.pointer (some ⟨b, 0, none⟩)] w fun r w' => r = .returned (holdV s.who) ∧ w = w' := by
  have H := Lib.hid (is_at w b m s h)
  obtain ⟨ok, ⟨q, hb, _⟩, _⟩ := h
  have c5 : w.cell? ⟨b, 5, none⟩ = some (.bool s.who.isSome) := hb.cell 5
  have c6 : w.cell? ⟨b, 6, none⟩ = some (.int .i64 (s.who.getD 0 : Nat)) := hb.cell 6
  clear ok hb
  obtain ⟨x, hx⟩ : ∃ x, s.who = x := ⟨_, rfl⟩
  rw [hx] at c5 c6 ⊢
  clear hx
  cases x with
  | none =>
    have c5' : w.cell? ⟨b, 5, none⟩ = some (.bool false) := c5
    clear c5 c6
    unfold holdV
    go_enter Try.func14, Try.ntmps14
    go_wp2_with (go_at_call 23; refine (H.out).mono ?_; rintro r w' ⟨rfl, rfl⟩)
    go_ret2
    exact ⟨rfl, rfl⟩
  | some i =>
    have c5' : w.cell? ⟨b, 5, none⟩ = some (.bool true) := c5
    have c6' : w.cell? ⟨b, 6, none⟩ = some (.int .i64 (i : Int)) := c6
    clear c5 c6
    unfold holdV
    go_enter Try.func14, Try.ntmps14
    go_wp2_with (go_at_call 23; refine (H.out).mono ?_; rintro r w' ⟨rfl, rfl⟩)
    go_ret2
    exact ⟨rfl, rfl⟩
theorem rHolder_at (w : World) (base b : Nat) (v : Value) (s : Cb) (h : RefAt w base b v s) : Calls Try.prog 31 #[.pointer (some ⟨b, 0, none⟩)] w fun r w' => r = .returned (holdV s.who) ∧ w = w' := by
  obtain ⟨⟨q, hb, _⟩, _⟩ := h
  have c4 : w.cell? ⟨b, 4, none⟩ = some (whoV s.who) := hb.cell 4
  clear hb
  obtain ⟨x, hx⟩ : ∃ x, s.who = x := ⟨_, rfl⟩
  rw [hx] at c4 ⊢
  clear hx
  cases x with
  | none =>
    unfold whoV at c4
    unfold holdV
    go_enter Try.func31, Try.ntmps31
    go_wp2
    go_ret2
    exact ⟨rfl, rfl⟩
  | some i =>
    unfold whoV at c4
    have h1 : decide ((i : Int) < 0) = false := by simp
    unfold holdV
    go_enter Try.func31, Try.ntmps31
    go_wp2
    go_ret2
    exact ⟨rfl, rfl⟩

/-! ### place -/
theorem flat_at : ∀ (l : List Sl) (i : Nat) (h : i < l.length), ((flat l).drop (i * 12)).take 12 = l[i].cells
  | x :: l, 0, _ => by
    show (x.cells ++ flat l).take 12 = x.cells
    exact List.take_left' rfl
  | x :: l, i + 1, h => by
    have ih := flat_at l i (by simpa using h)
    rw [List.getElem_cons_succ, ← ih]
    show ((x.cells ++ flat l).drop ((i + 1) * 12)).take 12 = _
    rw [List.drop_append, List.drop_of_length_le (by rw [sl_len]; omega), List.nil_append]
    congr 2
    rw [sl_len]; omega
theorem own_sl {w : World} {base : Nat} {v : Value} {l : List Sl} (h : w.ownsRow base 49 12 v l.length (flat l)) {i : Nat} (hi : i < l.length) :
    ∃ g cap cur, v = .slice (some ⟨g, 0, none⟩) l.length cap ∧ Blk w g 49 cur ∧ cur.extract (i * 12) (i * 12 + 12) = l[i].cells.toArray ∧ i * 12 + 12 ≤ cur.size := by
  rcases h.2 with ⟨_, h0⟩ | ⟨g, cap, cur, rfl, _, hg, hc, _, hs, ht⟩
  · omega
  · have hfit : i * 12 + 12 ≤ cur.size := by rw [hs]; omega
    refine ⟨g, cap, cur, rfl, hg, ?_, hfit⟩
    apply Array.ext'
    have e := flat_at l i hi
    rw [← ht] at e
    simp only [Array.toList_extract, List.extract_eq_take_drop]
    rw [show i * 12 + 12 - i * 12 = 12 by omega]
    rw [← e, List.drop_take, List.take_take, show min 12 (l.length * 12 - i * 12) = 12 by omega]
theorem ext_get {cs : Array Value} {x : Sl} {a j : Nat} (h : cs.extract a (a + 12) = x.cells.toArray) (hj : j < 12) (hfit : a + 12 ≤ cs.size) : cs[a + j]? = x.cells[j]? := by
  have h1 : (cs.extract a (a + 12))[j]? = x.cells[j]? := by rw [h]; simp
  rw [← h1, Array.getElem?_extract, if_pos (by omega)]
/-- The k-th slot's cells. -/
theorem own_cell {w : World} {base : Nat} {v : Value} {l : List Sl} (h : w.ownsRow base 49 12 v l.length (flat l)) {i : Nat} (hi : i < l.length) :
    ∃ g cap, v = .slice (some ⟨g, 0, none⟩) l.length cap ∧ (∃ cur, Blk w g 49 cur) ∧ ∀ j, j < 12 → w.cell? ⟨g, i * 12 + j, none⟩ = l[i].cells[j]? := by
  obtain ⟨g, cap, cur, hv, hg, he, hf⟩ := own_sl h hi
  exact ⟨g, cap, hv, ⟨cur, hg⟩, fun j hj => (hg.cell _).trans (ext_get he hj hf)⟩

/-- Where a core's slot stands. -/
def placeOf (l : List Sl) (i : Int) : Int := if l.findIdx (fun x => (x.core : Int) == i) < l.length then (l.findIdx (fun x => (x.core : Int) == i) : Nat) else -1
theorem placeOf_hit {l : List Sl} {i : Int} {k : Nat} (hk : k < l.length) (h : (l[k].core : Int) = i) (hn : ∀ j (hj : j < k), (l[j].core : Int) ≠ i) : placeOf l i = k := by
  have h1 : l.findIdx (fun x => (x.core : Int) == i) = k := by
    rw [List.findIdx_eq hk]
    refine ⟨by simpa using h, fun j hj => ?_⟩
    simpa using hn j hj
  unfold placeOf
  rw [h1, if_pos hk]
theorem placeOf_none {l : List Sl} {i : Int} (hn : ∀ j (hj : j < l.length), (l[j].core : Int) ≠ i) : placeOf l i = -1 := by
  unfold placeOf
  rw [if_neg]
  intro h
  exact hn _ h (by simpa using List.findIdx_getElem (w := h))

set_option maxHeartbeats 1000000 in
theorem place_at (w : World) (base b : Nat) (v : Value) (s : Cb) (i : Int) (h : RefAt w base b v s) (hn : s.l.length ≤ 64) : Calls Try.prog 35 #[.pointer (some ⟨b, 0, none⟩), .int .i64 i] w fun r w' => r = .returned (.int .i64 (placeOf s.l i)) ∧ w = w' := by
  obtain ⟨⟨q, hb, _⟩, hv⟩ := h
  obtain ⟨a, c, rfl⟩ := own_form hv
  have c3 : w.cell? ⟨b, 3, none⟩ = some (.slice a s.l.length c) := hb.cell 3
  obtain ⟨l, hl⟩ : ∃ l, l = s.l := ⟨_, rfl⟩
  rw [← hl] at hv c3 hn ⊢
  have HV := Lib.hid hv
  clear hb hv hl
  go_enter Try.func35, Try.ntmps35
  go_wp2_with fail
  go_loopw [5] (fun i' wr => w = wr ∧ ∃ k : Nat, k ≤ l.length ∧ i' = .int .i64 k ∧ ∀ j (hj : j < l.length), j < k → (l[j].core : Int) ≠ i)
    (fun i' _ => l.length - (intOf i').toNat)
  case atStart => exact ⟨rfl, 0, Nat.zero_le _, rfl, fun j _ hj => absurd hj (Nat.not_lt_zero _)⟩
  case round =>
    obtain ⟨rfl, k, hk, rfl, hno⟩ := hrel
    have HNO := Lib.hid hno
    clear hno
    by_cases hlt : k < l.length
    · obtain ⟨g, cap, hv, _, hc⟩ := own_cell HV.out hlt
      obtain ⟨rfl, rfl⟩ : a = some ⟨g, 0, none⟩ ∧ c = cap := by injection hv with h1 h2 h3; exact ⟨h1, h3⟩
      obtain ⟨y, hy⟩ : ∃ y, y = l[k].core := ⟨_, rfl⟩
      have c0 : w.cell? ⟨g, k * 12, none⟩ = some (.int .i64 (y : Int)) := by rw [hy]; exact hc 0 (by decide)
      have HY := Lib.hid hy
      clear hv hc hy
      by_cases he : (y : Int) = i
      · have hp := placeOf_hit hlt (by rw [← HY.out]; exact he) (fun j hj => HNO.out j (by omega) hj)
        subst he
        have HP := Lib.hid hp
        clear hp
        go_wp2_with fail
        go_ret
        exact ⟨by rw [HP.out]; rfl, rfl⟩
      · have he' : ((y : Int) == i) = false := by simpa using he
        go_wp2_with fail
        go_roundw
        case rel =>
          refine ⟨trivial, k + 1, by omega, by go_num, fun j hj hjk => ?_⟩
          by_cases hjk2 : j = k
          · subst hjk2; rw [← HY.out]; exact he
          · exact HNO.out j hj (by omega)
        case measure => simp [intOf]; omega
    · obtain rfl : k = l.length := by omega
      have hp := placeOf_none (i := i) (fun j hj => HNO.out j hj hj)
      have HP := Lib.hid hp
      clear hp
      go_wp2_with fail
      go_ret
      exact ⟨by rw [HP.out]; rfl, rfl⟩

/-! ### Index -/
def indexV (l : List Sl) (i : Int) : Value :=
  match l.find? (fun x => (x.core : Int) == i) with
  | some x => if x.told then .tuple #[.int .i64 x.index, .bool true] else .tuple #[.int .i64 0, .bool false]
  | none => .tuple #[.int .i64 0, .bool false]
/-- What place tells. -/
theorem place_cases (l : List Sl) (i : Int) : (placeOf l i = -1 ∧ l.find? (fun x => (x.core : Int) == i) = none) ∨
    ∃ (k : Nat) (hk : k < l.length), placeOf l i = k ∧ (l[k].core : Int) = i ∧ l.find? (fun x => (x.core : Int) == i) = some l[k] := by
  unfold placeOf
  by_cases h : l.findIdx (fun x => (x.core : Int) == i) < l.length
  · right
    rw [if_pos h]
    have h1 : (l[l.findIdx (fun x => (x.core : Int) == i)].core : Int) = i := by simpa using List.findIdx_getElem (w := h)
    refine ⟨_, h, rfl, h1, ?_⟩
    rw [List.find?_eq_some_iff_getElem]
    refine ⟨by simpa using h1, _, h, rfl, fun j hj => ?_⟩
    simpa using List.not_of_lt_findIdx hj
  · left
    rw [if_neg h]
    refine ⟨rfl, ?_⟩
    rw [List.find?_eq_none]
    intro x hx hc
    exact h (List.findIdx_lt_length_of_exists ⟨x, hx, hc⟩)
theorem rIndex_at (w : World) (base b : Nat) (v : Value) (s : Cb) (i : Int) (h : RefAt w base b v s) (hn : s.l.length ≤ 64) : Calls Try.prog 32 #[.pointer (some ⟨b, 0, none⟩), .int .i64 i] w fun r w' => r = .returned (indexV s.l i) ∧ w = w' := by
  have HP := Lib.hid (place_at w base b v s i h hn)
  obtain ⟨⟨q, hb, _⟩, hv⟩ := h
  unfold indexV
  rcases place_cases s.l i with ⟨h1, h2⟩ | ⟨k, hk, h1, _, h2⟩
  · rw [h2]
    have h3 := HP.out
    rw [h1] at h3
    have H3 := Lib.hid h3
    clear HP h1 h2 h3 hb hv
    go_enter Try.func32, Try.ntmps32
    go_wp2_with (go_at_call 35; refine (H3.out).mono ?_; rintro r w' ⟨rfl, rfl⟩)
    go_ret2
    exact ⟨rfl, rfl⟩
  · rw [h2]
    have h3 := HP.out
    rw [h1] at h3
    have H3 := Lib.hid h3
    obtain ⟨g, cap, hv, _, hc⟩ := own_cell hv hk
    have c3 : w.cell? ⟨b, 3, none⟩ = some (.slice (some ⟨g, 0, none⟩) s.l.length cap) := by rw [← hv]; exact hb.cell 3
    obtain ⟨x, hx⟩ : ∃ x, x = s.l[k] := ⟨_, rfl⟩
    rw [← hx] at hc ⊢
    have c1 : w.cell? ⟨g, k * 12 + 10, none⟩ = some (.bool x.told) := hc 10 (by decide)
    have c2 : w.cell? ⟨g, k * 12 + 11, none⟩ = some (.int .i64 x.index) := hc 11 (by decide)
    have hk0 : decide ((k : Int) < 0) = false := by simp
    obtain ⟨t, ht⟩ : ∃ t, x.told = t := ⟨_, rfl⟩
    simp only [ht] at c1 ⊢
    clear HP h1 h2 h3 hb hv hc hx ht
    cases t
    all_goals
      go_enter Try.func32, Try.ntmps32
      go_wp2_with (go_at_call 35; refine (H3.out).mono ?_; rintro r w' ⟨rfl, rfl⟩)
      go_ret2
      exact ⟨rfl, rfl⟩
end Go.Proofs.Ytaibhhppdmncfaa
