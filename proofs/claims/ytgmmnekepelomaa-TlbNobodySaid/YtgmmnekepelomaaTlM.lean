/- Tlb: Play: an act in both. -/
import Derived.Test.YtgmmnekepelomaaTlL
namespace Go.Proofs.Ytgmmnekepelomaa
open Go.RowKit
attribute [local go_sem ↓] ld30 st30 bs38
attribute [local go_sem] run_ld30 run_st30 tr_ones tr_size tr_take tr_extract tr_put tr_put' tr_len run_bs38

/-- An act. -/
structure TAct where
  do_ : Int
  x : Tr
  f : Int
  t : Int
def TAct.cells (a : TAct) : Array Value := #[.int .i64 a.do_, .int .i64 a.x.p, .int .i64 a.x.f, .int .i64 a.x.m, .bool a.x.h, .int .i64 a.f, .int .i64 a.t]
abbrev TAct.val (a : TAct) : Value := .agg a.cells
theorem act_ext (a : TAct) : a.cells.extract 1 5 = a.x.cells.toArray := rfl
theorem act_size (a : TAct) : a.cells.size = 7 := rfl
attribute [local go_sem] act_ext act_size
def Tl.step (s : Tl) (a : TAct) : Tl := if a.do_ = 0 then s.fill a.x else if a.do_ = 1 then s.drop a.f a.t else if a.do_ = 2 then s.dropAt a.f else s

/-- Both, each in blocks of its own from n0 on. -/
structure St (w : World) (n0 base b br : Nat) (s : Tl) : Prop where
  S : TlAt w b s
  R : ∃ v, RefAt w base br v s
  n0b : n0 ≤ b
  n0r : n0 ≤ br
  n0z : n0 ≤ base
  bz : b < base
  hz : base ≤ w.heap.size
theorem TlAt.blk {w : World} {b : Nat} {s : Tl} (h : TlAt w b s) : ∃ cs, Blk w b 50 cs := by obtain ⟨_, cs, _, hc, _⟩ := h; exact ⟨cs, hc⟩
theorem St.below {w w' : World} {n0 base b br : Nat} {s : Tl} (h : St w n0 base b br s) (hb : Below w.heap.size w w') : St w' n0 base b br s := by
  obtain ⟨S, ⟨v, R⟩, h1, h2, h3, h4, h5⟩ := h
  exact ⟨S.below hb, ⟨v, R.below hb⟩, h1, h2, h3, h4, Nat.le_trans h5 hb.size⟩
theorem RefAt.kept {w w' : World} {base b br : Nat} {v : Value} {s s' : Tl} (h : RefAt w base br v s) (hs : TlAt w b s') (ho : Only (· = b) w w') : RefAt w' base br v s := by
  obtain ⟨cs, hc⟩ := hs.blk
  exact h.only ho (fun hh => h.hb.ne_ hc (by decide) hh) (fun k hk hh => by subst hh; exact own_blk_ne h.hv hc (by decide) hk)
theorem TlAt.kept {w w' : World} {base b br : Nat} {v : Value} {s s' : Tl} (h : TlAt w b s) (hr : RefAt w base br v s') (hz : b < base) (ho : Only (fun k => k = br ∨ base ≤ k) w w') : TlAt w' b s := by
  obtain ⟨cs, hc⟩ := h.blk
  refine h.only ho (fun hh => ?_)
  rcases hh with hh | hh
  · exact hc.ne_ hr.hb (by decide) hh
  · omega

theorem eql30 (x : Tr) (w : World) : (binOp .eql 30 (.agg x.cells.toArray) (.agg x.cells.toArray)).run Try.prog w = .ok (.bool true) w := by
  obtain ⟨p, f, m, h⟩ := x
  simp only [Tr.cells]
  go_simp
theorem neq30 (x : Tr) (w : World) : (binOp .neq 30 (.agg x.cells.toArray) (.agg x.cells.toArray)).run Try.prog w = .ok (.bool false) w := by
  obtain ⟨p, f, m, h⟩ := x
  simp only [Tr.cells]
  go_simp
attribute [local go_sem high] eql30 neq30

set_option maxRecDepth 100000 in
set_option maxHeartbeats 4000000 in
theorem play_fill (w : World) (n0 base b br : Nat) (s : Tl) (a : TAct) (h : St w n0 base b br s) (ha : a.do_ = 0) :
    Calls Try.prog 9 #[.pointer (some ⟨b, 0, none⟩), .pointer (some ⟨br, 0, none⟩), a.val] w fun r w' => r = .returned (.bool true) ∧ St w' n0 base b br (s.fill a.x) ∧ Below n0 w w' := by
  obtain ⟨S, ⟨v, R⟩, h1, h2, h3, h4, h5⟩ := h
  have B1 : Below w.heap.size w (w.alloc (.cells a.cells 32)) := (Below.refl _ _).alloc (Nat.le_refl _) _
  have hbl := S.lt
  have hrl := R.hb.lt
  have x0 : (w.alloc (.cells a.cells 32)).cell? ⟨w.heap.size, 0, none⟩ = some (.int .i64 0) := by
    rw [(Blk.new w 32 a.cells).cell 0]; unfold TAct.cells; rw [ha]; rfl
  have S1 := Lib.hid (S.below B1)
  have R1 := Lib.hid (R.below B1)
  have hX := Lib.hid (Blk.new w 32 a.cells)
  obtain ⟨c, hc⟩ : ∃ c : Int, (if a.x.may then 0 else 1) = c := ⟨_, rfl⟩
  have HC := Lib.hid hc
  clear S R B1 ha hc
  go_enter Try.func9, Try.ntmps9
  go_wp2_with fail
  go_region_with (first
    | (go_at_call 15; refine (fill_st _ b s a.x (by exact S1.out.below (Below.refl _ _).drew)).mono ?_; rw [HC.out]; rintro r w3 ⟨rfl, T3, O3⟩; have hX3 : Blk w3 w.heap.size 32 a.cells := hX.out.drew.only O3 (by omega); have z1 := hX3.rowOf; have z2 := hX3.plain)
    | (go_at_call 22; refine (rFill_st _ base br v s a.x ((R1.out.below (Below.refl _ _).drew).kept (S1.out.below (Below.refl _ _).drew) O3) (by have := O3.size; simp at this; omega)).mono ?_; rw [HC.out]; rintro r w4 ⟨rfl, v4, T4, O4⟩))
  all_goals
    go_wp2_with fail
    go_ret
    have R3 := (R1.out.below (Below.refl _ _).drew).kept (S1.out.below (Below.refl _ _).drew) O3
    have T3' := T3.kept R3 h4 O4
    have O1 : Only (fun k => n0 ≤ k) w w3 := (((Only.refl _ w).alloc _).drew).trans (O3.mono (fun k hk => by subst hk; exact h1))
    have O2 : Only (fun k => n0 ≤ k) w w4 := O1.trans (O4.mono (fun k hk => by rcases hk with rfl | hk; exact h2; omega))
    exact ⟨rfl, ⟨T3', ⟨v4, T4⟩, h1, h2, h3, h4, Nat.le_trans h5 O2.size⟩, O2.below (by omega) (fun k hk => hk)⟩
end Go.Proofs.Ytgmmnekepelomaa
