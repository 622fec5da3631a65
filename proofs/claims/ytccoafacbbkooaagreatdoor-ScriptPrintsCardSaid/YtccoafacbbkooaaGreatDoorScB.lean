/- Script: the program's number. -/
import Derived.Test.YtccoafacbbkooaaGreatDoorScA
import Derived.Test.YtccoafacbbkooaaGreatDoorL0
import Derived.Test.YtccoafacbbkooaaGreatDoorSh0
import Derived.Shelf.Strings.SlTrimAscii
namespace Go.Proofs.YtccoafacbbkooaaGreatDoor
open Go.RowKit

/-- A word's bytes. -/
def bs (w : Wd) : ByteArray := ⟨w.toArray⟩
theorem bs_data (w : Wd) : (bs w).data.toList = w := rfl
theorem bs_toList (w : Wd) : (bs w).toList = w := by rw [Go.ByteArray.toList_eq]; rfl
theorem bs_size (w : Wd) : (bs w).size = w.length := by simp [bs, ByteArray.size]
theorem bs_mk (l : Wd) : (⟨l.toArray⟩ : ByteArray) = bs l := rfl
theorem bs_get (w : Wd) (k : Nat) (h : k < (bs w).size) : (bs w)[k] = w[k]'(by rw [bs_size] at h; exact h) := rfl
def digits : Wd := [48, 49, 50, 51, 52, 53, 54, 55, 56, 57]
theorem isDig_in (c : UInt8) : digits.contains c = isDig c := by
  rw [Bool.eq_iff_iff, List.contains_iff_mem]
  unfold digits isDig
  simp only [List.mem_cons, List.not_mem_nil, or_false, Bool.and_eq_true, decide_eq_true_eq]
  constructor
  · rintro (rfl | rfl | rfl | rfl | rfl | rfl | rfl | rfl | rfl | rfl) <;> decide
  · rintro ⟨h1, h2⟩
    have h3 : c.toNat = 48 ∨ c.toNat = 49 ∨ c.toNat = 50 ∨ c.toNat = 51 ∨ c.toNat = 52 ∨ c.toNat = 53 ∨ c.toNat = 54 ∨ c.toNat = 55 ∨ c.toNat = 56 ∨ c.toNat = 57 := by omega
    rcases h3 with h | h | h | h | h | h | h | h | h | h
    · exact .inl (UInt8.toNat_inj.1 h)
    · exact .inr (.inl (UInt8.toNat_inj.1 h))
    · exact .inr (.inr (.inl (UInt8.toNat_inj.1 h)))
    · exact .inr (.inr (.inr (.inl (UInt8.toNat_inj.1 h))))
    · exact .inr (.inr (.inr (.inr (.inl (UInt8.toNat_inj.1 h)))))
    · exact .inr (.inr (.inr (.inr (.inr (.inl (UInt8.toNat_inj.1 h))))))
    · exact .inr (.inr (.inr (.inr (.inr (.inr (.inl (UInt8.toNat_inj.1 h)))))))
    · exact .inr (.inr (.inr (.inr (.inr (.inr (.inr (.inl (UInt8.toNat_inj.1 h))))))))
    · exact .inr (.inr (.inr (.inr (.inr (.inr (.inr (.inr (.inl (UInt8.toNat_inj.1 h)))))))))
    · exact .inr (.inr (.inr (.inr (.inr (.inr (.inr (.inr (.inr (UInt8.toNat_inj.1 h)))))))))
theorem dropWhile_nil_iff {p : UInt8 → Bool} : ∀ {l : Wd}, l.dropWhile p = [] ↔ ∀ c ∈ l, p c = true
  | [] => by simp
  | c :: l => by
    rw [List.dropWhile_cons]
    split
    · rename_i h
      rw [dropWhile_nil_iff]
      simp [h]
    · rename_i h
      simp [h]
theorem take_mem {p : UInt8 → Bool} : ∀ {l : Wd} {c : UInt8}, c ∈ l.takeWhile p → p c = true
  | [], c, h => by simp at h
  | x :: l, c, h => by
    rw [List.takeWhile_cons] at h
    split at h
    · rename_i hx
      rcases List.mem_cons.1 h with rfl | h
      · exact hx
      · exact take_mem h
    · cases h
theorem trim_nil (w : Wd) : Lib.trimS w digits = [] ↔ w.all isDig = true := by
  have h2 : ∀ l : Wd, Lib.trimLeftS l digits = [] ↔ ∀ c ∈ l, isDig c = true := fun l => by
    unfold Lib.trimLeftS
    rw [dropWhile_nil_iff]
    simp only [isDig_in]
  unfold Lib.trimS
  rw [h2]
  unfold Lib.trimRightS
  rw [List.all_eq_true]
  constructor
  · intro h c hc
    have h3 := List.takeWhile_append_dropWhile (p := (digits.contains ·)) (l := w.reverse)
    have h4 : c ∈ w.reverse := List.mem_reverse.2 hc
    rw [← h3, List.mem_append] at h4
    rcases h4 with h4 | h4
    · have := take_mem h4
      rw [isDig_in] at this
      exact this
    · exact h c (List.mem_reverse.2 h4)
  · intro h c hc
    rw [List.mem_reverse] at hc
    exact h c (List.mem_reverse.1 ((List.dropWhile_suffix _).subset hc))
theorem decFrom_dig : ∀ (w : Wd) (n : Nat), (∀ c ∈ w, isDig c = true) → Lib.decFrom n w = some (w.foldl (fun n c => n * 10 + (c.toNat - 48)) n)
  | [], n, _ => rfl
  | c :: w, n, h => by
    have h1 := h c List.mem_cons_self
    unfold isDig at h1
    simp at h1
    have h2 : Lib.digitVal c = some (c.toNat - 48) := by unfold Lib.digitVal; rw [if_pos h1]
    unfold Lib.decFrom
    rw [h2]
    exact decFrom_dig w _ (fun x hx => h x (List.mem_cons_of_mem _ hx))
theorem atoi_dig {w : Wd} (hne : w ≠ []) (h : ∀ c ∈ w, isDig c = true) : Lib.atoi w = some (valL w : Int) := by
  cases w with
  | nil => exact absurd rfl hne
  | cons c w =>
    have h1 := h c List.mem_cons_self
    unfold isDig at h1
    simp at h1
    unfold Lib.atoi
    have e1 : (c == 45) = false := by rw [beq_eq_false_iff_ne]; rintro rfl; simp at h1
    have e2 : (c == 43) = false := by rw [beq_eq_false_iff_ne]; rintro rfl; simp at h1
    simp only [e1, e2, Bool.false_eq_true, if_false]
    unfold Lib.decNat
    rw [decFrom_dig _ 0 h]
    rfl
def numI (w : Wd) : Int := ((numL w).getD 0 : Nat)
theorem below_bytes (w : World) (e : TypeId) (s : ByteArray) : Below w.heap.size w (Lib.bytesWorld w e s) :=
  ⟨rfl, rfl, rfl, by rw [Lib.bytesWorld_size]; omega, fun k hk => Lib.bytesWorld_at_old w e s k hk⟩

set_option maxHeartbeats 1000000 in
theorem number_w (w : Wd) (W : World) : Calls Tryz.prog 36 #[.string (bs w)] W fun r w' => r = .returned (.tuple #[.int .i64 (numI w), .bool (numL w).isSome]) ∧ Below W.heap.size W w' := by
  have hTr := fun (W : World) (h9 : w.length ≤ 9) => Any.strings_Trim_laid Tryz.lays160 (by kernel_rfl) (bs w) (bs digits) W (by rw [bs_size]; omega) (by decide) (ascii_of_all (by decide))
  have hAt := fun (W : World) (h9 : w.length ≤ 9) (hne : w ≠ []) (hd : ∀ c ∈ w, isDig c = true) => Tryz.strconv_Atoi (bs w) (valL w : Int) (by rw [bs_size]; omega) (by rw [bs_data]; exact atoi_dig hne hd) W
  obtain ⟨s, hs⟩ : ∃ s, bs w = s := ⟨_, rfl⟩
  have hsz : s.size = w.length := by rw [← hs]; exact bs_size w
  have htl : s.toList = w := by rw [← hs]; exact bs_toList w
  rw [hs] at hTr hAt ⊢
  obtain ⟨tr, htr⟩ : ∃ tr, (⟨(Lib.trimS s.data.toList (bs digits).data.toList).toArray⟩ : ByteArray) = tr := ⟨_, rfl⟩
  simp only [htr] at hTr
  have hte : tr.toList.isEmpty = w.all isDig := by
    rw [Go.ByteArray.toList_eq, ← htr, ← hs, Bool.eq_iff_iff, List.isEmpty_iff, ← trim_nil]
    exact Iff.rfl
  have HTE := Lib.hid hte
  clear htr hte
  have HT := Lib.hid hTr
  have HA := Lib.hid hAt
  clear hTr hAt
  by_cases h0 : w = []
  · subst h0
    have e0 : s.toList.isEmpty = true := by rw [htl]; rfl
    have hn : numL [] = none := rfl
    simp only [numI, hn]
    clear htl hsz hs hn
    go_enter Tryz.func36, Tryz.ntmps36
    go_wp2_with fail
    go_ret2
    exact ⟨rfl, Below.refl _ _⟩
  · have e0 : s.toList.isEmpty = false := by rw [htl]; cases w with | nil => exact absurd rfl h0 | cons _ _ => rfl
    have e1 : ¬ s.toList = [] := by rw [htl]; exact h0
    have hpos : 0 < s.size := by rw [hsz]; exact List.length_pos_iff.2 h0
    by_cases h9 : 9 < w.length
    · have hn : numL w = none := by
        have hf : formed w = false := by unfold formed; simp; omega
        unfold numL; rw [hf]; rfl
      simp only [numI, hn]
      have h9' : 9 < s.size := by rw [hsz]; exact h9
      clear htl hsz hs hn
      go_enter Tryz.func36, Tryz.ntmps36
      go_wp2_with fail
      go_ret2
      exact ⟨rfl, Below.refl _ _⟩
    · by_cases hz : 1 < w.length ∧ w.head? = some 48
      · have hn : numL w = none := by
          have hf : formed w = false := by unfold formed; simp [hz.1, hz.2]
          unfold numL; rw [hf]; rfl
        simp only [numI, hn]
        have h9' : s.size ≤ 9 := by rw [hsz]; omega
        have h1' : 1 < s.size := by rw [hsz]; exact hz.1
        have hc : (s[0].toNat : Int) = 48 := by
          subst hs
          rw [bs_get]
          have : w[0]? = some 48 := by rw [← List.head?_eq_getElem?]; exact hz.2
          rw [List.getElem?_eq_getElem (by omega)] at this
          injection this with this
          rw [this]; rfl
        have hc' : ((s[0].toNat : Int) == 48) = true := by simpa using hc
        clear htl hsz hs hn
        go_enter Tryz.func36, Tryz.ntmps36
        go_wp2_with fail
        go_ret2
        exact ⟨rfl, Below.refl _ _⟩
      · have hform : formed w = true := by
          unfold formed
          have h1 : 1 ≤ w.length := List.length_pos_iff.2 h0
          have h2 : w.length ≤ 9 := by omega
          simp only [h1, h2, decide_true, Bool.true_and, Bool.not_eq_true', Bool.and_eq_false_iff, decide_eq_false_iff_not, beq_eq_false_iff_ne]
          by_cases h3 : 1 < w.length
          · exact .inr (fun e => hz ⟨h3, e⟩)
          · exact .inl h3
        have h9' : s.size ≤ 9 := by rw [hsz]; omega
        have h9w : w.length ≤ 9 := by omega
        have hh : s.size ≤ 1 ∨ (1 < s.size ∧ ((s[0].toNat : Int) == 48) = false) := by
          by_cases h3 : 1 < w.length
          · refine .inr ⟨by rw [hsz]; exact h3, ?_⟩
            subst hs
            rw [bs_get, beq_eq_false_iff_ne]
            intro e
            refine hz ⟨h3, ?_⟩
            rw [List.head?_eq_getElem?, List.getElem?_eq_getElem (by omega)]
            have : w[0].toNat = (48 : UInt8).toNat := by
              have h4 : (48 : UInt8).toNat = 48 := rfl
              omega
            exact congrArg some (UInt8.toNat_inj.1 this)
          · exact .inl (by rw [hsz]; omega)
        cases hd : w.all isDig with
        | false =>
          have hn : numL w = none := by unfold numL; rw [hform, hd]; rfl
          have hte := HTE.out
          rw [hd] at hte
          have hte1 : ¬ tr.toList = [] := by rw [← List.isEmpty_iff, hte]; simp
          simp only [numI, hn]
          clear htl hsz hs hn hform hz hd HTE
          rcases hh with hh | ⟨hh, hh2⟩
          all_goals
            go_enter Tryz.func36, Tryz.ntmps36
            go_wp2_with (go_at_call 52; refine (HT.out _ h9w).mono ?_; rintro r w1 ⟨rfl, B1⟩)
            go_ret2
            exact ⟨rfl, B1⟩
        | true =>
          have hn : numL w = some (valL w) := by unfold numL; rw [hform, hd]; rfl
          have hte := HTE.out
          rw [hd] at hte
          have hte1 : tr.toList = [] := by rw [← List.isEmpty_iff]; exact hte
          have hall : ∀ c ∈ w, isDig c = true := by rw [List.all_eq_true] at hd; exact hd
          have HALL := Lib.hid hall
          have H0 := Lib.hid h0
          simp only [numI, hn]
          clear htl hsz hs hn hform hz hd HTE hall
          rcases hh with hh | ⟨hh, hh2⟩
          all_goals
            go_enter Tryz.func36, Tryz.ntmps36
            go_wp2_with (first
              | (go_at_call 52; refine (HT.out _ h9w).mono ?_; rintro r w1 ⟨rfl, B1⟩)
              | (go_at_call 53; refine (HA.out _ h9w H0.out HALL.out).mono ?_; rintro r w2 ⟨rfl, t2, hw2⟩; have B2 : Below w1.heap.size w1 w2 := (by rw [hw2]; exact below_bytes _ _ _); clear hw2)
              | (refine wp_region_stG 4 (by kernel_rfl) (by kernel_rfl) ?_; simp only [List.take_succ_cons, List.take_zero, List.drop_succ_cons, List.drop_zero]; (repeat (first | (refine StG.skip rfl rfl ?_) | (refine StG.skipU rfl (by simp only [Act.put, List.setIfInBounds_toArray, List.set_cons_zero, List.set_cons_succ]; rfl) ?_) | (refine StG.want rfl (fun K hK => ?_); go_simp; (try go_bits); refine hK _ ?_; clear hK K))); refine StG.nil ?_))
            go_ret2
            exact ⟨rfl, (B1.trans (B2.mono B1.size)).drew⟩
end Go.Proofs.YtccoafacbbkooaaGreatDoor
