/- Shoot: the reference's Pending; both News as they lie. -/
import Derived.Test.YtfekllnalacggaaShC
import Derived.Laws.OwnMore
namespace Go.Proofs.Ytfekllnalacggaa
open Go.RowKit
attribute [local go_sem ↓] ld35 st35
attribute [local go_sem] run_ld35 run_st35

/-- Has a core that did k still to do generation g? -/
def Sh.open_ (s : Sh) (g : Int) (k : Nat) : Bool := decide (1 ≤ g) && decide (g ≤ s.l.length) && decide ((k : Int) < g)
def Sh.pend (s : Sh) (g : Int) (c : Nat) : Nat := (s.d.take c).countP (s.open_ g)
theorem Sh.pend_succ (s : Sh) (g : Int) (c : Nat) (h : c < s.d.length) : s.pend g (c + 1) = s.pend g c + (if s.open_ g s.d[c] then 1 else 0) := by
  unfold Sh.pend
  rw [List.take_succ_eq_append_getElem h, List.countP_append, List.countP_singleton]
theorem Sh.pend_le (s : Sh) (g : Int) (c : Nat) : s.pend g c ≤ s.d.length := by
  unfold Sh.pend
  exact Nat.le_trans List.countP_le_length (by rw [List.length_take]; omega)

set_option maxRecDepth 100000 in
theorem rPending (w : World) (base b ed : Nat) (v : Value) (s : Sh) (g : Int) (h : RefAt w base b ed v s) (h64 : s.d.length ≤ 64) :
    Calls Try.prog 22 #[.pointer (some ⟨b, 0, none⟩), .int .i64 g] w fun r w' => r = .returned (.int .i64 (s.pend g s.d.length)) ∧ w = w' := by
  obtain ⟨va, vc, rfl⟩ := own_form h.hv
  have c0 : w.cell? ⟨b, 0, none⟩ = some (.slice va s.l.length vc) := h.hb.cell 0
  have c1 : w.cell? ⟨b, 1, none⟩ = some (.slice (some ⟨ed, 0, none⟩) s.d.length s.d.length) := h.hb.cell 1
  have H := Lib.hid h; clear h
  go_enter Try.func22, Try.ntmps22
  go_wp2_with fail
  go_loopw [5, 6] (fun n i wr => ∃ c : Nat, c ≤ s.d.length ∧ n = .int .i64 (s.pend g c) ∧ i = .int .i64 c ∧ w = wr)
    (fun _ i _ => s.d.length - (intOf i).toNat)
  case atStart => exact ⟨0, Nat.zero_le _, rfl, rfl, rfl⟩
  case round =>
    obtain ⟨c, hc, rfl, rfl, rfl⟩ := hrel
    by_cases hlt : c < s.d.length
    · have hp := s.pend_succ g c hlt
      have hle := s.pend_le g c
      have c2 : w.cell? ⟨ed, c, none⟩ = some (.int .i64 (s.d[c] : Int)) := by rw [H.out.hd.cell]; simp [hlt]
      obtain ⟨k, hk⟩ : ∃ k, s.d[c] = k := ⟨_, rfl⟩
      rw [hk] at c2 hp
      unfold Sh.open_ at hp
      clear hk
      by_cases g1 : 1 ≤ g
      · by_cases g2 : g ≤ s.l.length
        · by_cases g3 : (k : Int) < g
          · have HP := Lib.hid (show s.pend g (c + 1) = s.pend g c + 1 by rw [hp]; simp [g1, g2, g3])
            clear hp
            go_wp2
            go_roundw
            case rel => exact ⟨c + 1, by omega, by rw [HP.out]; go_num, by go_num, trivial⟩
            case measure => simp [intOf]; omega
          · have HP := Lib.hid (show s.pend g (c + 1) = s.pend g c by rw [hp]; simp [g1, g2, g3])
            clear hp
            have g3' : decide ((k : Int) < g) = false := by simpa using g3
            clear g3
            go_wp2
            go_roundw
            case rel => exact ⟨c + 1, by omega, by rw [HP.out], by go_num, trivial⟩
            case measure => simp [intOf]; omega
        · have HP := Lib.hid (show s.pend g (c + 1) = s.pend g c by rw [hp]; simp [g1, g2])
          clear hp
          have g2' : decide (g ≤ (s.l.length : Int)) = false := by simpa using g2
          clear g2
          go_wp2
          go_roundw
          case rel => exact ⟨c + 1, by omega, by rw [HP.out], by go_num, trivial⟩
          case measure => simp [intOf]; omega
      · have HP := Lib.hid (show s.pend g (c + 1) = s.pend g c by rw [hp]; simp [g1])
        clear hp
        have g1' : decide (1 ≤ g) = false := by simpa using g1
        clear g1
        go_wp2
        go_roundw
        case rel => exact ⟨c + 1, by omega, by rw [HP.out], by go_num, trivial⟩
        case measure => simp [intOf]; omega
    · obtain rfl : c = s.d.length := by omega
      go_wp2
      go_ret
      exact ⟨rfl, rfl⟩

/-! ### Both News -/
def Sh.made (n : Nat) : Sh := ⟨[], List.replicate n 0⟩
theorem Sh.made_ok {n : Nat} (h : 1 ≤ n) (h2 : n ≤ 64) : (Sh.made n).ok := ⟨by simp [Sh.made]; omega, by simp [Sh.made]; omega, by simp [Sh.made]⟩
theorem madeCells_get {z : Value} {n i : Nat} (h : i < n) : (madeCells #[z] n)[i]? = some z := by
  have := toList_madeCells_one z n
  rw [← Array.getElem?_toList, this]
  simp [h]
theorem new_sh (w : World) (n : Nat) (h : 1 ≤ n) (h2 : n ≤ 64) : Calls Try.prog 17 #[.int .i64 n] w fun r w' => r = .returned (.tuple #[.pointer (some ⟨w.heap.size + 1, 0, none⟩), .int .i64 0]) ∧
    ShAt w' (w.heap.size + 1) w.heap.size (Sh.made n) ∧ Below w.heap.size w w' ∧ w'.heap.size = w.heap.size + 2 := by
  refine (new_yes w n h h2).mono ?_
  rintro r w' ⟨rfl, rfl⟩
  refine ⟨rfl, ⟨Sh.made_ok h h2, ?_, _, heap_alloc2_old w _ _, by simp [size_madeCells, Sh.made], fun c k hk => ?_⟩, ((Below.refl _ _).alloc (Nat.le_refl _) _).alloc (by simp) _, by simp⟩
  · have := heap_alloc2_new w (.cells (madeCells #[.slice none 0 0] n) 58) (.cells #[.slice (some ⟨w.heap.size, 0, none⟩) n n, .int .i64 0] 46)
    have e1 : (Sh.made n).d.length = n := by simp [Sh.made]
    rw [e1]
    exact this
  · have hc : c < n := by
      have := (List.getElem?_eq_some_iff.1 hk).1
      simpa [Sh.made] using this
    have hk0 : k = 0 := by
      simp [Sh.made, List.getElem?_replicate] at hk
      exact hk.2.symm
    subst hk0
    exact ⟨_, madeCells_get hc, QAt.empty_ _ []⟩
theorem rNew_sh (w : World) (n base : Nat) (h : 1 ≤ n) (h2 : n ≤ 64) : Calls Try.prog 18 #[.int .i64 n] w fun r w' => r = .returned (.tuple #[.pointer (some ⟨w.heap.size + 1, 0, none⟩), .int .i64 0]) ∧
    RefAt w' base (w.heap.size + 1) w.heap.size (.slice none 0 0) (Sh.made n) ∧ Below w.heap.size w w' ∧ w'.heap.size = w.heap.size + 2 := by
  refine (rNew_yes w n h h2).mono ?_
  rintro r w' ⟨rfl, rfl⟩
  refine ⟨rfl, ⟨?_, World.ownsRow_nil _ _ _ _, ?_⟩, ((Below.refl _ _).alloc (Nat.le_refl _) _).alloc (by simp) _, by simp⟩
  · have := heap_alloc2_new w (.cells (madeCells #[.int .i64 0] n) 3) (.cells #[.slice none 0 0, .slice (some ⟨w.heap.size, 0, none⟩) n n] 31)
    have e1 : (Sh.made n).d.length = n := by simp [Sh.made]
    rw [e1]
    exact this
  · have e1 : madeCells #[.int .i64 0] n = ((Sh.made n).d.map fun (k : Nat) => Value.int .i64 (k : Int)).toArray := by
      apply Array.ext'
      rw [toList_madeCells_one]
      simp [Sh.made]
    rw [← e1]
    exact heap_alloc2_old w _ _
end Go.Proofs.Ytfekllnalacggaa
