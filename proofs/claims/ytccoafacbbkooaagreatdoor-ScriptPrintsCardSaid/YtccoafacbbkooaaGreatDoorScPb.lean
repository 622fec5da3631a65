/- Script: items that came in; plain, same. -/
import Derived.Test.YtccoafacbbkooaaGreatDoorScPa
namespace Go.Proofs.YtccoafacbbkooaaGreatDoor
open Go.RowKit Go.Maps

theorem plain_w (l : Wd) (w : World) : Calls Tryz.prog 22 #[.string (bs l)] w fun e w' => e = .returned (.bool (plainL l)) ∧ w = w' := by
  obtain ⟨s, hs⟩ : ∃ s, bs l = s := ⟨_, rfl⟩
  have htl : s.toList = l := by rw [← hs]; exact bs_toList l
  have hsz : s.size = l.length := by rw [← hs]; exact bs_size l
  have hget : ∀ (k : Nat) (h : k < s.size) (h2 : k < l.length), s[k] = l[k] := by subst hs; intro k h _; rfl
  rw [hs]
  clear hs
  cases l with
  | nil =>
    have e : plainL [] = true := rfl
    rw [e]
    have h1 : s.size = 0 := hsz
    clear hsz hget e
    go_enter Tryz.func22, Tryz.ntmps22
    go_wp2_with fail
    go_ret
    exact ⟨rfl, rfl⟩
  | cons c t =>
    have hpos : 0 < s.size := by rw [hsz]; simp
    have hg : s[0] = c := hget 0 hpos (by simp)
    have e1 : ¬ s.toList = [] := by rw [htl]; simp
    have e2 : s.toList.isEmpty = false := by rw [htl]; rfl
    clear hsz hget htl
    by_cases hc : c = 35
    · have e : plainL (c :: t) = true := by rw [hc]; rfl
      rw [e]
      have hn : ((c.toNat : Int) == 35) = true := by rw [hc]; rfl
      clear e hc
      go_enter Tryz.func22, Tryz.ntmps22
      go_wp2_with fail
      go_ret
      exact ⟨rfl, rfl⟩
    · have e : plainL (c :: t) = false := by simp [plainL, hc]
      rw [e]
      have hn : ((c.toNat : Int) == 35) = false := by
        rw [beq_eq_false_iff_ne]
        intro h
        have h3 : c.toNat = (35 : UInt8).toNat := by
          have h4 : (35 : UInt8).toNat = 35 := rfl
          omega
        exact hc (UInt8.toNat_inj.1 h3)
      clear e hc
      go_enter Tryz.func22, Tryz.ntmps22
      go_wp2_with fail
      go_ret
      exact ⟨rfl, rfl⟩

/-- A slice of items. -/
def ItemsAt (w : World) (A : Option Addr) (l : List Itm) : Prop :=
  l.length * 112 ≤ 140737488351232 ∧ (0 < l.length → ∃ b off, A = some ⟨b, off, none⟩ ∧ b < w.heap.size ∧ ∀ i a, l[i]? = some a → ∀ j v, a.arr[j]? = some v → w.cell? ⟨b, off + i * 14 + j, none⟩ = some v)
theorem ItemsAt.below {w W : World} {A : Option Addr} {l : List Itm} (h : ItemsAt w A l) (hb : Below w.heap.size w W) : ItemsAt W A l := by
  refine ⟨h.1, fun h0 => ?_⟩
  obtain ⟨b, off, e, hlt, hc⟩ := h.2 h0
  exact ⟨b, off, e, Nat.lt_of_lt_of_le hlt hb.size, fun i a hi j v hj => (hb.cell (p := ⟨b, off + i * 14 + j, none⟩) hlt).trans (hc i a hi j v hj)⟩
set_option maxRecDepth 100000 in
theorem ItemsAt.load {w W : World} {A : Option Addr} {l : List Itm} (h : ItemsAt w A l) (hb : Below w.heap.size w W) {i : Nat} {a : Itm} (hi : l[i]? = some a) :
    ∃ b off, A = some ⟨b, off, none⟩ ∧ (ldAgg 29 (.pointer (some ⟨b, off + i * 14, none⟩))).run Tryz.prog W = .ok (.agg a.arr) W ∧ (ldAgg 29 (.pointer (some ⟨b, off + i * 14, none⟩))).run Tryz.prog W.drew = .ok (.agg a.arr) W.drew := by
  have hlt : i < l.length := (List.getElem?_eq_some_iff.1 hi).1
  obtain ⟨b, off, rfl, hbb, hc⟩ := h.2 (by omega)
  have gen : ∀ W : World, Below w.heap.size w W → (ldAgg 29 (.pointer (some ⟨b, off + i * 14, none⟩))).run Tryz.prog W = .ok (.agg a.arr) W := by
    intro W hb
    have hl : (loadCells ⟨b, off + i * 14, none⟩ a.arr.toList.length).run Tryz.prog W = .ok a.arr.toList.toArray W :=
      run_loadCells_list (P := Tryz.prog) W ⟨b, off + i * 14, none⟩ _ (fun j v hv => by
        rw [add_off]
        exact (hb.cell (p := ⟨b, off + i * 14 + j, none⟩) hbb).trans (hc i a hi j v (by simpa using hv)))
    have hagg := run_isAgg (P := Tryz.prog) Tryz.underlying29 rfl W
    obtain ⟨i0, hi0, hs⟩ : ∃ i, Tryz.prog.info? 29 = some i ∧ i.size = 14 := ⟨_, rfl, by kernel_rfl⟩
    have hsz : a.arr.toList.length = 14 := rfl
    rw [hsz, Array.toArray_toList] at hl
    simp only [ldAgg, Instr.loadAt, Instr.sureAddr, Sem.run_bind, Sem.run_pure, Result.andThen_ok]
    simp [loadVar, Sem.run_bind, hagg, sizeOf, typeInfo, hi0, hs, hl]
  exact ⟨b, off, rfl, gen W hb, gen W.drew hb.drew⟩

set_option maxRecDepth 100000 in
set_option maxHeartbeats 4000000 in
theorem same_w (w : World) (A B : Option Addr) (c c' : Nat) (l : List Itm) (ha : ItemsAt w A l) (hb : ItemsAt w B l) :
    Calls Tryz.prog 11 #[.slice A l.length c, .slice B l.length c'] w fun e w' => e = .returned (.bool true) ∧ Below w.heap.size w w' := by
  have hl : l.length ≤ 4398046510976 := by have := ha.1; omega
  have HA := Lib.hid ha
  have HB := Lib.hid hb
  clear ha hb
  obtain ⟨N, hN⟩ : ∃ N, l.length = N := ⟨_, rfl⟩
  have HN := Lib.hid hN
  rw [hN] at hl ⊢
  clear hN
  go_enter Tryz.func11, Tryz.ntmps11
  go_wp2_with fail
  go_loopw [5] (fun i wr => ∃ k : Nat, k ≤ N ∧ i = .int .i64 k ∧ Below w.heap.size w wr) (fun i _ => N - (intOf i).toNat)
  case atStart => exact ⟨0, Nat.zero_le _, rfl, Below.refl _ _⟩
  case round =>
    obtain ⟨k, hk, rfl, hbel⟩ := hrel
    have HBEL := Lib.hid hbel
    clear hbel
    by_cases hlt : k < N
    · have hkl : k < l.length := by rw [HN.out]; exact hlt
      obtain ⟨b1, o1, rfl, d1, d2⟩ := HA.out.load HBEL.out (i := k) (List.getElem?_eq_getElem hkl)
      obtain ⟨b2, o2, rfl, d3, d4⟩ := HB.out.load HBEL.out (i := k) (List.getElem?_eq_getElem hkl)
      obtain ⟨x, hx⟩ : ∃ x, l[k] = x := ⟨_, rfl⟩
      rw [hx] at d1 d2 d3 d4
      have hd : decide (x = x) = true := decide_eq_true rfl
      clear hx hkl
      go_wp2_with (first | (refine wp_region_stG 8 (by kernel_rfl) (by kernel_rfl) ?_; simp only [List.take_succ_cons, List.take_zero, List.drop_succ_cons, List.drop_zero]; (repeat (first | (refine StG.skip rfl rfl ?_) | (refine StG.skipU rfl (by simp only [Act.put, List.setIfInBounds_toArray, List.set_cons_zero, List.set_cons_succ]; rfl) ?_) | (refine StG.want rfl (fun K hK => ?_); go_simp; (try go_bits); refine hK _ ?_; clear hK K))); refine StG.nil ?_))
      go_roundw
      case rel => exact ⟨k + 1, by omega, by go_num, HBEL.out.drew⟩
      case measure => simp [intOf]; omega
    · have hd : decide (k < N) = false := by simpa using hlt
      go_wp2_with fail
      go_ret
      exact ⟨rfl, HBEL.out⟩
end Go.Proofs.YtccoafacbbkooaaGreatDoor
