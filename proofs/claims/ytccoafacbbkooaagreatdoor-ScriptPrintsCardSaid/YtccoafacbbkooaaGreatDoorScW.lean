/- Script: the program's words, digits, perm, policy. -/
import Derived.Test.YtccoafacbbkooaaGreatDoorScV
import Derived.Test.YtccoafacbbkooaaGreatDoorScT
import Derived.Deep.RegionHeld3
namespace Go.Proofs.YtccoafacbbkooaaGreatDoor
open Go.RowKit Go.Maps

/-- The table that strconv.Itoa asks. -/
abbrev Tab (w : World) : Prop := Lib.TabIs Tryz.prog w "internal/strconv.uint64pow10" .u64 Lib.pow10Tab
theorem Tab.below {w w' : World} (h : Tab w) (hb : Below w.heap.size w w') : Tab w' := by
  unfold Tab Lib.TabIs World.var? at h ⊢
  cases hg : Tryz.prog.globalNamed "internal/strconv.uint64pow10" with
  | none => rw [hg] at h; cases h
  | some g =>
    rw [hg] at h
    simp only [Option.bind_some] at h ⊢
    have hlt : g < w.heap.size := by
      by_cases hn : g < w.heap.size
      · exact hn
      · rw [Array.getElem?_eq_none (by omega)] at h
        cases h
    rw [hb.block g hlt]
    exact h
abbrev In64 (n : Int) : Prop := -9223372036854775808 ≤ n ∧ n ≤ 9223372036854775807
theorem below_grow (w : World) (k : Nat) (os : Array Obj) : Below w.heap.size w (Go.Sort.grow (w.drewN k) os) := by
  refine ⟨rfl, rfl, rfl, ?_, fun i hi => ?_⟩
  · simp [Go.Sort.grow]
  · show (w.heap ++ os)[i]? = _
    rw [Array.getElem?_append_left hi]
theorem digits_w (n : Int) (w : World) (hn : In64 n) (ht : Tab w) : Calls Tryz.prog 24 #[.int .i64 n] w fun e w' => e = .returned (.string (bs (dg n))) ∧ Below w.heap.size w w' := by
  have h := Tryz.strconv_Itoa n hn.1 hn.2 w ht
  have HH := Lib.hid h
  clear h hn ht
  go_enter Tryz.func24, Tryz.ntmps24
  go_wp2_with (go_at_call 42; refine (HH.out).mono ?_; rintro e w1 ⟨rfl, t1, hw1⟩; obtain ⟨os1, hw1⟩ := hw1; have B1 : Below w.heap.size w w1 := (by rw [hw1]; exact below_grow _ _ _); clear hw1)
  go_ret
  exact ⟨rfl, B1⟩
theorem bs_join (l : List Wd) : (⟨(Lib.join ((l.map bs).map (·.data.toList)) (bs [32]).data.toList).toArray⟩ : ByteArray) = bs (joinW l) := by
  have : (l.map bs).map (·.data.toList) = l := by
    rw [List.map_map]
    conv => rhs; rw [← List.map_id l]
    rfl
  rw [this]
  rfl
theorem words_w (w : World) (g off c : Nat) (l : List Wd) (hcells : ∀ (j : Nat) (x : Wd), l[j]? = some x → w.cell? ⟨g, off + j, none⟩ = some (.string (bs x))) (hg : g < w.heap.size) (hc : l.length ≤ c) (hN : l.length ≤ 1000) (hlen : (joinW l).length ≤ 140737488355328) :
    Calls Tryz.prog 23 #[.slice (some ⟨g, off, none⟩) l.length c] w fun e w' => e = .returned (.string (bs (joinW l))) ∧ Below w.heap.size w w' := by
  have h := Tryz.strings_Join g off c (l.map bs) (bs [32]) w (fun j x hj => by
    rw [List.getElem?_map, Option.map_eq_some_iff] at hj
    obtain ⟨y, hy, rfl⟩ := hj
    exact hcells j y hy) hg (by rw [List.length_map]; omega) (by rw [List.length_map]; exact hc) (by
      have := congrArg (fun b : ByteArray => b.data.toList.length) (bs_join l)
      simp only at this
      rw [show (bs (joinW l)).data.toList.length = (joinW l).length from rfl] at this
      rw [← this] at hlen
      exact hlen)
  rw [bs_join, List.length_map] at h
  have e : bs [32] = { data := #[32] } := rfl
  rw [e] at h
  obtain ⟨n, hn⟩ : ∃ n, l.length = n := ⟨_, rfl⟩
  rw [hn] at h ⊢
  have HH := Lib.hid h
  clear h e hn hcells hc hN hlen
  go_enter Tryz.func23, Tryz.ntmps23
  go_wp2_with (go_at_call 41; refine (HH.out).mono ?_; rintro e w1 ⟨rfl, B1⟩)
  go_ret
  exact ⟨rfl, B1⟩
theorem perm_w (p : Int) (w : World) : Calls Tryz.prog 43 #[.int .i64 p] w fun e w' => e = .returned (.string (bs (permP p))) ∧ w = w' := by
  by_cases h0 : p = 0
  · subst h0
    have e : bs (permP 0) = { data := #[45] } := rfl
    rw [e]
    go_enter Tryz.func43, Tryz.ntmps43
    go_wp2_with fail
    go_ret
    exact ⟨rfl, rfl⟩
  · by_cases h1 : p = 1
    · subst h1
      have e : bs (permP 1) = { data := #[114] } := rfl
      rw [e]
      go_enter Tryz.func43, Tryz.ntmps43
      go_wp2_with fail
      go_ret
      exact ⟨rfl, rfl⟩
    · by_cases h3 : p = 3
      · subst h3
        have e : bs (permP 3) = { data := #[114, 119] } := rfl
        rw [e]
        go_enter Tryz.func43, Tryz.ntmps43
        go_wp2_with fail
        go_ret
        exact ⟨rfl, rfl⟩
      · have e : bs (permP p) = { data := #[] } := by unfold permP; rw [if_neg h0, if_neg h1, if_neg h3]; rfl
        rw [e]
        have b0 : (p == 0) = false := by simpa using h0
        have b1 : (p == 1) = false := by simpa using h1
        have b3 : (p == 3) = false := by simpa using h3
        go_enter Tryz.func43, Tryz.ntmps43
        go_wp2_with fail
        go_ret
        exact ⟨rfl, rfl⟩
end Go.Proofs.YtccoafacbbkooaaGreatDoor
