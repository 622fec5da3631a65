/- Script: the reference's numbers, perm, policy. -/
import Derived.Test.YtccoafacbbkooaaGreatDoorScK
namespace Go.Proofs.YtccoafacbbkooaaGreatDoor
open Go.RowKit Go.Maps

abbrev nums (l : List Nat) : List Value := l.map fun (i : Nat) => Value.int .i64 (i : Int)
theorem nums_snoc (l : List Nat) (x : Nat) : nums (l ++ [x]) = nums l ++ [.int .i64 (x : Int)] := by simp [nums]
theorem StrAt.get {w : World} {q : Value} {ws : List Wd} (h : StrAt w q ws) {k : Nat} (hk : k < ws.length) :
    ∃ g off c, q = .slice (some ⟨g, off, none⟩) ws.length c ∧ w.cell? ⟨g, off + k, none⟩ = some (.string (bs ws[k])) ∧ g < w.heap.size ∧ ws.length ≤ c := by
  obtain ⟨a, c, h1, h2, h3⟩ := h
  rcases h3 with ⟨_, rfl⟩ | ⟨g, off, cs, rfl, e2, e3, e4⟩
  · simp at hk
  · refine ⟨g, off, c, h1, ?_, e2.lt, h2⟩
    rw [e2.cell]
    exact e4 k _ (List.getElem?_eq_getElem hk)
theorem numsR_step {ws : List Wd} {k : Nat} (hk : k < ws.length) : numsR (ws.drop k) = match numL ws[k], numsR (ws.drop (k + 1)) with | some n, some l => some (n :: l) | _, _ => none := by
  rw [List.drop_eq_getElem_cons hk]
  rfl
theorem info3 : (Tryz.prog.info? 3).map (fun i => (i.zero, i.size, i.bytes)) = some (some (.int .i64 0), 1, 8) := by kernel_rfl

/-- What numbers tells. -/
def NumsPost (n0 : Nat) (o : Option (List Nat)) (e : Ending) (w' : World) : Prop := match o with
  | some ns => ∃ v, e = .returned (.tuple #[v, .bool true]) ∧ w'.ownsRow n0 3 1 v ns.length (nums ns)
  | none => e = .returned (.tuple #[.slice none 0 0, .bool false])
set_option maxRecDepth 100000 in
set_option maxHeartbeats 2000000 in
theorem numbers_r (w : World) (q : Value) (ws : List Wd) (h : StrAt w q ws) (hl : ws.length < 4294967296) : Calls Tryz.prog 32 #[q] w fun e w' => NumsPost w.heap.size (numsR ws) e w' ∧ Below w.heap.size w w' := by
  obtain ⟨i0, hi0, hz0, hz1, hz2⟩ := info_parts info3
  have HI := Lib.hid hi0
  have hb0 : ∀ w, (Instr.buildSlice 72 0 #[]).run Tryz.prog w = .ok (.slice (some ⟨w.heap.size, 0, none⟩) 0 0) (w.alloc (.cells #[] 3)) := fun w => by kernel_rfl
  have hb1 : ∀ w i, (Instr.buildSlice 72 1 #[(0, .int .i64 i)]).run Tryz.prog w = .ok (.slice (some ⟨w.heap.size, 0, none⟩) 1 1) (w.alloc (.cells #[.int .i64 i] 3)) := fun w i => by kernel_rfl
  have HQ := Lib.hid h
  obtain ⟨a, c, rfl, _⟩ := h
  obtain ⟨N, hN⟩ : ∃ N, ws.length = N := ⟨_, rfl⟩
  rw [hN] at hl
  have HN := Lib.hid hN
  rw [hN] at HQ ⊢
  clear hi0 hN
  go_enter Tryz.func32, Tryz.ntmps32
  go_wp2_with fail
  go_loopw [4, 5] (fun o i wr => ∃ (k : Nat) (ns : List Nat), i = .int .i64 k ∧ k ≤ N ∧ ns.length = k ∧ wr.ownsRow w.heap.size 3 1 o ns.length (nums ns) ∧ Below w.heap.size w wr ∧
      numsR ws = match numsR (ws.drop k) with | some l => some (ns ++ l) | none => none)
    (fun _ i _ => N - (intOf i).toNat)
  case atStart =>
    refine ⟨0, [], rfl, Nat.zero_le _, rfl, ⟨rfl, .inr ⟨w.heap.size, 0, #[], rfl, Nat.le_refl _, Blk.new w 3 #[], Nat.le_refl _, by decide, rfl, rfl⟩⟩, (Below.refl _ _).alloc (Nat.le_refl _) _, ?_⟩
    rw [List.drop_zero]
    cases numsR ws <;> rfl
  case round =>
    obtain ⟨k, ns, rfl, hk, hnk, hown, hbel, hnr⟩ := hrel
    have hbs := hbel.size
    have HOWN := Lib.hid hown
    have HBEL := Lib.hid hbel
    by_cases hlt : k < N
    · have hltw : k < ws.length := by rw [HN.out]; exact hlt
      obtain ⟨g, off, c', e1, hc, hg, _⟩ := (HQ.out.below hbel).get hltw
      rw [HN.out] at e1
      obtain ⟨rfl, rfl⟩ : a = some ⟨g, off, none⟩ ∧ c = c' := by injection e1 with h1 h2 h3; exact ⟨h1, h3⟩
      have hst := numsR_step hltw
      rw [hst] at hnr
      obtain ⟨x, hx⟩ : ∃ x, ws[k] = x := ⟨_, rfl⟩
      rw [hx] at hc hnr
      have hnw := number_r x wr
      clear hown hbel hst hx e1
      cases hx : numL x with
      | none =>
        rw [hx] at hnr
        have hv : numR x = -1 := by unfold numR; rw [hx]
        rw [hv] at hnw
        have HNW := Lib.hid hnw
        have hnr' : numsR ws = none := hnr
        have HNR := Lib.hid hnr'
        clear hnr hnr' hnw hv hx
        go_wp2_with (go_at_call 30; refine (HNW.out).mono ?_; rintro e w1 ⟨rfl, rfl⟩)
        go_ret2
        exact ⟨by rw [HNR.out]; rfl, HBEL.out⟩
      | some n =>
        rw [hx] at hnr
        have hv : numR x = (n : Int) := by unfold numR; rw [hx]
        rw [hv] at hnw
        have HNW := Lib.hid hnw
        have HNR := Lib.hid hnr
        clear hnr hnw hv hx
        go_wp2_with (first
          | (go_at_call 30; refine (HNW.out).mono ?_; rintro e w1 ⟨rfl, rfl⟩)
          | (at_builtin; refine wpList_append_own_at _ rfl _ _ 72 rfl w.heap.size 3 i0 _ 1 8 Tryz.underlying72 HI.out hz0 hz1 hz2 rfl (by decide) _ _ _ rfl (own_below HOWN.out ((Below.refl _ _).alloc (Nat.le_refl _) _)) ⟨wr.heap.size, 0, none⟩ 1 1 [.int .i64 (n : Int)] rfl rfl (cell_one_new _ _ _) (fun u hu => by simp at hu; subst hu; rfl) (by unfold maxLen; omega) (by omega) (by simp; omega) ?_; intro v1 w1 own1 gr1 _ at1; have HO1 := Lib.hid own1; have HG1 := Lib.hid gr1; clear own1 gr1 at1))
        go_roundw
        case rel =>
          refine ⟨k + 1, ns ++ [n], by go_num, by omega, by simp; omega, ?_, below_grown (HBEL.out.alloc (by omega) _) (Nat.le_refl _) HG1.out (own_base HOWN.out), ?_⟩
          · rw [nums_snoc, List.length_append]
            exact HO1.out
          · rw [HNR.out]
            cases numsR (ws.drop (k + 1)) with
            | none => rfl
            | some l => simp
        case measure => simp [intOf]; omega
    · obtain rfl : k = N := by omega
      have hnr' : numsR ws = some ns := by
        rw [hnr, ← HN.out, List.drop_length]
        show some (ns ++ []) = _
        rw [List.append_nil]
      have HNR := Lib.hid hnr'
      clear hown hbel hnr hnr'
      go_wp2_with fail
      go_ret2
      exact ⟨by rw [HNR.out]; exact ⟨_, rfl, HOWN.out⟩, HBEL.out⟩

theorem perm_r (x : Wd) (w : World) : Calls Tryz.prog 47 #[.string (bs x)] w fun e w' => e = .returned (.int .i64 ((permV x).getD (-1))) ∧ w = w' := by
  obtain ⟨s, hs⟩ : ∃ s, bs x = s := ⟨_, rfl⟩
  have htl : s.toList = x := by rw [← hs]; exact bs_toList x
  rw [hs]
  unfold permV
  clear hs
  by_cases h1 : x = [45]
  · subst h1
    go_enter Tryz.func47, Tryz.ntmps47
    go_wp2_with fail
    go_ret
    exact ⟨rfl, rfl⟩
  · by_cases h2 : x = [114]
    · subst h2
      go_enter Tryz.func47, Tryz.ntmps47
      go_wp2_with fail
      go_ret
      exact ⟨rfl, rfl⟩
    · by_cases h3 : x = [114, 119]
      · subst h3
        go_enter Tryz.func47, Tryz.ntmps47
        go_wp2_with fail
        go_ret
        exact ⟨rfl, rfl⟩
      · rw [if_neg h1, if_neg h2, if_neg h3]
        have g1 : (x == [45]) = false := by simpa using h1
        have g2 : (x == [114]) = false := by simpa using h2
        have g3 : (x == [114, 119]) = false := by simpa using h3
        go_enter Tryz.func47, Tryz.ntmps47
        go_wp2_with fail
        go_ret
        exact ⟨rfl, rfl⟩
end Go.Proofs.YtccoafacbbkooaaGreatDoor
