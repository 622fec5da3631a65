/- Oplog: Play: an act in both. -/
import Derived.Test.YtjeikkecdgnkoaaOlC
import Derived.Deep.RegionWith
namespace Go.Proofs.Ytjeikkecdgnkoaa
open Go.RowKit
attribute [local go_sem ↓] ld35 st35
attribute [local go_sem] run_ld35 run_st35

/-- An act. -/
structure OAct where
  adv : Bool
  to : Int
  x : Ent
def OAct.cells (a : OAct) : Array Value := (Value.bool a.adv :: Value.int .i64 a.to :: a.x.cells).toArray
def OAct.val (a : OAct) : Value := .agg a.cells
theorem OAct.size (a : OAct) : a.cells.size = 11 := rfl
theorem OAct.c0 (a : OAct) : a.cells[0]? = some (.bool a.adv) := rfl
theorem OAct.c1 (a : OAct) : a.cells[1]? = some (.int .i64 a.to) := rfl
theorem OAct.c2 (a : OAct) : a.cells.extract 2 11 = a.x.cells.toArray := rfl
def Ol.step (s : Ol) (a : OAct) : Ol := if a.adv then s.adv a.to else s.app a.x
theorem Ol.step_ok {s : Ol} (h : s.ok) (a : OAct) : (s.step a).ok := by
  unfold Ol.step
  split
  · exact Ol.adv_ok h _
  · exact Ol.app_ok h _
theorem Ol.step_len (s : Ol) (a : OAct) : (s.step a).l.length ≤ s.l.length + 1 := by
  unfold Ol.step
  split
  · unfold Ol.adv; split <;> simp
  · exact Ol.app_len s _

/-- Both logs, each in blocks of its own from n0 on. -/
structure St (w : World) (n0 base b e br : Nat) (s : Ol) : Prop where
  L : LogAt w b e s
  R : ∃ v, RefAt w base br v s
  b0 : n0 ≤ b
  e0 : n0 ≤ e
  r0 : n0 ≤ br
  b1 : b < base
  e1 : e < base
  r1 : br < base
  nb : br ≠ b
  ne : br ≠ e
  hz : base ≤ w.heap.size

theorem LogAt.drewN {w : World} {b e : Nat} {s : Ol} (h : LogAt w b e s) (n : Nat) : LogAt (w.drewN n) b e s := ⟨h.ok, h.hb, h.he⟩
theorem LogAt.drew {w : World} {b e : Nat} {s : Ol} (h : LogAt w b e s) : LogAt w.drew b e s := ⟨h.ok, h.hb, h.he⟩
theorem RefAt.drewN {w : World} {base b : Nat} {v : Value} {s : Ol} (h : RefAt w base b v s) (n : Nat) : RefAt (w.drewN n) base b v s := ⟨h.hb, h.hv⟩
theorem RefAt.drew {w : World} {base b : Nat} {v : Value} {s : Ol} (h : RefAt w base b v s) : RefAt w.drew base b v s := ⟨h.hb, h.hv⟩
theorem RefAt.base_le {w : World} {base b : Nat} {v : Value} {s : Ol} (h : RefAt w base b v s) : ∀ k, v.ownBlock = some k → base ≤ k := fun k hk => (h.hv.lt k hk).1
theorem St.below {w w' : World} {n0 base b e br : Nat} {s : Ol} (h : St w n0 base b e br s) (hb : Below w.heap.size w w') : St w' n0 base b e br s := by
  obtain ⟨L, ⟨v, R⟩, b0, e0, r0, b1, e1, r1, nb, ne, hz⟩ := h
  exact ⟨L.below hb, ⟨v, R.below hb⟩, b0, e0, r0, b1, e1, r1, nb, ne, Nat.le_trans hz hb.size⟩
theorem St.drewN {w : World} {n0 base b e br : Nat} {s : Ol} (h : St w n0 base b e br s) (n : Nat) : St (w.drewN n) n0 base b e br s := by
  obtain ⟨L, ⟨v, R⟩, b0, e0, r0, b1, e1, r1, nb, ne, hz⟩ := h
  exact ⟨L.drewN n, ⟨v, R.drewN n⟩, b0, e0, r0, b1, e1, r1, nb, ne, hz⟩

set_option maxHeartbeats 1000000 in
theorem play_adv (w : World) (n0 base b e br : Nat) (s : Ol) (a : OAct) (h : St w n0 base b e br s) (ha : a.adv = true) :
    Calls Try.prog 12 #[.pointer (some ⟨b, 0, none⟩), .pointer (some ⟨br, 0, none⟩), a.val] w fun r w' => r = .returned (.bool true) ∧ St w' n0 base b e br (s.adv a.to) ∧ Below n0 w w' := by
  obtain ⟨L, ⟨v, R⟩, b0, e0, r0, b1, e1, r1, nb, ne, hz⟩ := h
  have HA := Below.refl w.heap.size w |>.alloc (Nat.le_refl _) (.cells a.cells 42)
  have L1 := Lib.hid (L.below HA)
  have R1 := Lib.hid (R.below HA)
  have hv1 := R.base_le
  have BX := Lib.hid (Blk.new w 42 a.cells)
  clear L R HA
  have k0 := a.c0
  rw [ha] at k0
  have k1 := a.c1
  unfold OAct.val
  go_enter Try.func12, Try.ntmps12
  go_wp2
  go_region_held3 (fun w' => w'.cell? ⟨w.heap.size, 1, none⟩ = some (.int .i64 a.to))
    (first
      | (go_simp; done)
      | exact e3
      | exact e2)
    (first
      | (go_at_call 17; (with_reducible refine (adv_log _ b e s a.to (by first | exact L1.out.drewN _ | exact L1.out.drew)).mono ?_); rintro r w1 ⟨rfl, hL1, ho1⟩; have B1 : Blk w1 w.heap.size 42 a.cells := Blk.only (BX.out.drew) ho1 (by omega); have e2 : w1.cell? ⟨w.heap.size, 1, none⟩ = some (.int .i64 a.to) := (B1.cell 1).trans k1)
      | (go_at_call 21; (with_reducible refine (rAdv_log _ base br v s a.to ((R1.out.drew).only ho1 nb (fun k hk e => by have := hv1 k hk; omega))).mono ?_); rintro r w2 ⟨rfl, hR2, ho2⟩; have e3 : w2.cell? ⟨w.heap.size, 1, none⟩ = some (.int .i64 a.to) := ((B1.only ho2 (by omega)).cell 1).trans k1))
  go_wp2
  go_ret
  have hO : Only (fun k => k = b ∨ k = br) w w2 := (((Only.refl _ w).alloc _).drew.trans (ho1.mono (fun k hk => .inl hk))).trans (ho2.mono (fun k hk => .inr hk))
  refine ⟨rfl, ⟨hL1.only ho2 (Ne.symm nb) (Ne.symm ne), ⟨v, hR2⟩, b0, e0, r0, b1, e1, r1, nb, ne, Nat.le_trans hz hO.size⟩, hO.below (by omega) (fun k hk => by omega)⟩

/-- Append, behind a box. -/
theorem play_app (w : World) (n0 base b e br : Nat) (s : Ol) (a : OAct) (h : St w n0 base b e br s) (ha : a.adv = false) (hn : (s.l.length + 1) * 72 ≤ 140737488355328) :
    Calls Try.prog 12 #[.pointer (some ⟨b, 0, none⟩), .pointer (some ⟨br, 0, none⟩), a.val] w fun r w' => r = .returned (.bool true) ∧ St w' n0 base b e br (s.app a.x) ∧ Below n0 w w' := by
  obtain ⟨L, ⟨v, R⟩, b0, e0, r0, b1, e1, r1, nb, ne, hz⟩ := h
  have HA := Below.refl w.heap.size w |>.alloc (Nat.le_refl _) (.cells a.cells 42)
  have L1 := Lib.hid (L.below HA)
  have R1 := Lib.hid (R.below HA)
  have BX := Lib.hid (Blk.new w 42 a.cells)
  have hv1 := R.base_le
  have ok := Lib.hid L.ok
  have hm : s.l.length + 1 ≤ maxLen := by unfold maxLen; omega
  clear L R HA
  have k0 := a.c0
  rw [ha] at k0
  have k2 := a.c2
  have ks : 11 ≤ a.cells.size := Nat.le_refl 11
  unfold OAct.val
  by_cases hh : s.l.length < s.first + s.slots
  · have ev : s.appV = .tuple #[.int .i64 s.l.length, .int .i64 0] := by unfold Ol.appV; rw [if_pos hh]
    go_enter Try.func12, Try.ntmps12
    go_wp2_with (first
      | (go_at_call 15; (with_reducible refine (app_log _ b e s a.x L1.out (by omega)).mono ?_); rintro r w1 ⟨rfl, hL1, ho1⟩; rw [ev]; have B1 : Blk w1 w.heap.size 42 a.cells := Blk.only BX.out ho1 (by omega); have f1 := B1.rowOf; have f2 := B1.plain)
      | (go_at_call 22; (with_reducible refine (rApp_log _ base br v s a.x ok.out (R1.out.only ho1 (by omega) (fun k hk e => by have := hv1 k hk; omega)) (Nat.le_trans hz (Nat.le_trans (by simp) ho1.size)) hm hn).mono ?_); rintro r w2 ⟨rfl, v2, hR2, ho2⟩; rw [ev]))
    go_ret
    have hO : Only (fun k => (k = b ∨ k = e) ∨ (k = br ∨ v.ownBlock = some k)) w w2 := (((Only.refl _ w).alloc _).trans (ho1.mono (fun k hk => .inl hk))).trans (ho2.mono (fun k hk => .inr hk))
    refine ⟨rfl, ⟨hL1.only ho2 ?_ ?_, ⟨v2, hR2⟩, b0, e0, r0, b1, e1, r1, nb, ne, Nat.le_trans hz hO.size⟩, hO.below (by omega) (fun k hk => ?_)⟩
    · rintro (h | h)
      · omega
      · have := hv1 _ h; omega
    · rintro (h | h)
      · omega
      · have := hv1 _ h; omega
    · rcases hk with h | h | h
      · omega
      · omega
      · have := hv1 _ h; omega
  · have ev : s.appV = .tuple #[.int .i64 0, .int .i64 2] := by unfold Ol.appV; rw [if_neg hh]
    go_enter Try.func12, Try.ntmps12
    go_wp2_with (first
      | (go_at_call 15; (with_reducible refine (app_log _ b e s a.x L1.out (by omega)).mono ?_); rintro r w1 ⟨rfl, hL1, ho1⟩; rw [ev]; have B1 : Blk w1 w.heap.size 42 a.cells := Blk.only BX.out ho1 (by omega); have f1 := B1.rowOf; have f2 := B1.plain)
      | (go_at_call 22; (with_reducible refine (rApp_log _ base br v s a.x ok.out (R1.out.only ho1 (by omega) (fun k hk e => by have := hv1 k hk; omega)) (Nat.le_trans hz (Nat.le_trans (by simp) ho1.size)) hm hn).mono ?_); rintro r w2 ⟨rfl, v2, hR2, ho2⟩; rw [ev]))
    go_ret
    have hO : Only (fun k => (k = b ∨ k = e) ∨ (k = br ∨ v.ownBlock = some k)) w w2 := (((Only.refl _ w).alloc _).trans (ho1.mono (fun k hk => .inl hk))).trans (ho2.mono (fun k hk => .inr hk))
    refine ⟨rfl, ⟨hL1.only ho2 ?_ ?_, ⟨v2, hR2⟩, b0, e0, r0, b1, e1, r1, nb, ne, Nat.le_trans hz hO.size⟩, hO.below (by omega) (fun k hk => ?_)⟩
    · rintro (h | h)
      · omega
      · have := hv1 _ h; omega
    · rintro (h | h)
      · omega
      · have := hv1 _ h; omega
    · rcases hk with h | h | h
      · omega
      · omega
      · have := hv1 _ h; omega

theorem play_st (w : World) (n0 base b e br : Nat) (s : Ol) (a : OAct) (h : St w n0 base b e br s) (hn : (s.l.length + 1) * 72 ≤ 140737488355328) :
    Calls Try.prog 12 #[.pointer (some ⟨b, 0, none⟩), .pointer (some ⟨br, 0, none⟩), a.val] w fun r w' => r = .returned (.bool true) ∧ St w' n0 base b e br (s.step a) ∧ Below n0 w w' := by
  cases ha : a.adv with
  | true =>
    have e1 : s.step a = s.adv a.to := by unfold Ol.step; rw [ha]; rfl
    rw [e1]
    exact play_adv w n0 base b e br s a h ha
  | false =>
    have e1 : s.step a = s.app a.x := by unfold Ol.step; rw [ha]; rfl
    rw [e1]
    exact play_app w n0 base b e br s a h ha hn
end Go.Proofs.Ytjeikkecdgnkoaa
