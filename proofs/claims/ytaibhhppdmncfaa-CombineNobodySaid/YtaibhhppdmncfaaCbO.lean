/- Combine: Play: an act in both. -/
import Derived.Test.YtaibhhppdmncfaaCbN
namespace Go.Proofs.Ytaibhhppdmncfaa
open Go.RowKit Go.Maps
attribute [local go_sem ↓] ld33
attribute [local go_sem] run_ld33

/-- An act. -/
structure CAct where
  do_ : Int
  core : Int
  x : Cl
  index : Int
def CAct.cells (a : CAct) : Array Value := #[.int .i64 a.do_, .int .i64 a.core, .int .i64 a.x.kind, .int .i64 a.x.page, .int .i64 a.x.pages, .int .i64 a.x.perm, .int .i64 a.x.pk, .int .i64 a.x.pn, .int .i64 a.x.addr, .int .i64 a.x.byte, .int .i64 a.index]
abbrev CAct.val (a : CAct) : Value := .agg a.cells
/-- Its core is an int. -/
def CAct.fits (a : CAct) : Prop := -9223372036854775808 ≤ a.core ∧ a.core ≤ 9223372036854775807
theorem act_ext (a : CAct) : a.cells.extract 2 10 = a.x.cells.toArray := rfl
theorem act_size (a : CAct) : a.cells.size = 11 := rfl
attribute [local go_sem] act_ext act_size
def Cb.step (s : Cb) (a : CAct) : Cb := if a.do_ = 0 then s.post a.core a.x else if a.do_ = 1 then s.elect a.core else if a.do_ = 2 then s.deliver a.index else if a.do_ = 3 then s.done a.core else if a.do_ = 4 then s.release a.core else s
theorem Cb.step_ok {s : Cb} (ok : s.ok) (a : CAct) : (s.step a).ok := by
  unfold Cb.step
  split
  · exact Cb.post_ok ok _ _
  · split
    · exact Cb.elect_ok ok _
    · split
      · exact Cb.deliver_ok ok _
      · split
        · exact Cb.done_ok ok _
        · split
          · exact Cb.release_ok ok _
          · exact ok

/-- Both, each in blocks of its own from n0 on. -/
structure St (w : World) (n0 base b m br : Nat) (s : Cb) : Prop where
  S : CbAt w b m s
  R : ∃ v, RefAt w base br v s
  n0b : n0 ≤ b
  n0m : n0 ≤ m
  n0r : n0 ≤ br
  n0z : n0 ≤ base
  hz : base ≤ w.heap.size
theorem St.below {w w' : World} {n0 base b m br : Nat} {s : Cb} (h : St w n0 base b m br s) (hb : Below w.heap.size w w') : St w' n0 base b m br s := by
  obtain ⟨S, ⟨v, R⟩, h1, h2, h3, h4, h5⟩ := h
  exact ⟨S.below hb, ⟨v, R.below hb⟩, h1, h2, h3, h4, Nat.le_trans h5 hb.size⟩
theorem own_map_ne {w : World} {base : Nat} {v : Value} {n m : Nat} {xs : List Value} {P : Program} {k : TypeId} {g : Nat → Option Value} (h : w.ownsRow base 49 12 v n xs) (hm : MapAt P k w m g) : ∀ k, v.ownBlock = some k → k ≠ m := by
  intro k hk e
  subst e
  rcases h.2 with ⟨rfl, _⟩ | ⟨g, cap, cur, rfl, _, hg, _⟩
  · simp [Value.ownBlock] at hk
  · have : g = k := by simpa [Value.ownBlock] using hk
    subst this
    exact hm.no_blk (t := 49) (cs := cur) hg rfl
theorem RefAt.kept {w w' : World} {base b m br : Nat} {v : Value} {s s' : Cb} (h : RefAt w base br v s) (hs : CbAt w b m s') (ho : Only (TouchP b m) w w') : RefAt w' base br v s := by
  obtain ⟨_, ⟨q, hb, _⟩, hm⟩ := hs
  have hr := h.hb.choose_spec.1
  refine h.only ho ?_ (fun k hk e => ?_) (fun g cur hg e => ?_)
  · rintro (e | e)
    · exact hr.ne_ hb (by decide) e
    · exact hm.no_blk hr e.symm
  · rcases e with e | e
    · exact own_blk_ne' h.hv hb (by decide) k hk e
    · exact own_map_ne h.hv hm k hk e
  · rcases e with e | e
    · exact hg.ne_ hb (by decide) e
    · exact hm.no_blk hg e.symm
theorem CbAt.kept {w w' : World} {base b m br : Nat} {v : Value} {s s' : Cb} (h : CbAt w b m s) (hr : RefAt w base br v s') (ho : Only (TouchR br v) w w') : CbAt w' b m s := by
  obtain ⟨_, ⟨q, hb, _⟩, hm⟩ := id h
  have hbr := hr.hb.choose_spec.1
  refine h.only ho ?_ ?_ (fun g cur hg e => ?_)
  · rintro (e | e)
    · exact hb.ne_ hbr (by decide) e
    · exact own_blk_ne' hr.hv hb (by decide) _ e rfl
  · rintro (e | e)
    · exact hm.no_blk hbr e
    · exact own_map_ne hr.hv hm _ e rfl
  · rcases e with e | e
    · exact hg.ne_ hbr (by decide) e
    · exact own_blk_ne' hr.hv hg (by decide) _ e rfl
/-- Blocks that are no part of the two lie as they lay. -/
structure Fr (w w' : World) : Prop where
  keep : ∀ g t cs, Blk w g t cs → t ≠ 61 → t ≠ 43 → t ≠ 49 → Blk w' g t cs
  size : w.heap.size ≤ w'.heap.size
theorem Fr.below {w w' : World} (h : Below w.heap.size w w') : Fr w w' := ⟨fun _ _ _ hg _ _ _ => hg.below h hg.lt, h.size⟩
theorem Fr.trans {a b c : World} (h : Fr a b) (k : Fr b c) : Fr a c := ⟨fun g t cs hg h1 h2 h3 => k.keep g t cs (h.keep g t cs hg h1 h2 h3) h1 h2 h3, Nat.le_trans h.size k.size⟩
theorem Fr.ofP {w w' : World} {b m : Nat} {s : Cb} (h : CbAt w b m s) (ho : Only (TouchP b m) w w') : Fr w w' := ⟨fun g t cs hg h1 _ _ => hg.only ho (fun e => by
  obtain ⟨_, ⟨q, hb, _⟩, hm⟩ := h
  rcases e with e | e
  · exact hg.ne_ hb h1 e
  · exact hm.no_blk hg e.symm), ho.size⟩
theorem Fr.ofR {w w' : World} {base b : Nat} {v : Value} {s : Cb} (h : RefAt w base b v s) (ho : Only (TouchR b v) w w') : Fr w w' := ⟨fun g t cs hg _ h2 h3 => hg.only ho (fun e => by
  have hr := h.hb.choose_spec.1
  rcases e with e | e
  · exact hg.ne_ hr h2 e
  · exact own_blk_ne' h.hv hg (Ne.symm h3) _ e rfl), ho.size⟩
theorem St.mk_ {w w3 w4 w0 : World} {n0 base b m br : Nat} {s s1 : Cb} {v v' : Value} (h : St w0 n0 base b m br s) (hw : Below w0.heap.size w0 w) (S : CbAt w b m s) (R : RefAt w base br v s) (T3 : CbAt w3 b m s1) (R3 : RefAt w3 base br v s) (T4 : RefAt w4 base br v' s1) (O3 : Only (TouchP b m) w w3) (O4 : Only (TouchR br v) w3 w4) :
    St w4 n0 base b m br s1 ∧ Below n0 w0 w4 ∧ Fr w0 w4 := by
  have h1 := h.n0b
  have h2 := h.n0m
  have h3 := h.n0r
  have h4 := h.n0z
  have h5 := h.hz
  have O1 : Only (fun k => n0 ≤ k) w0 w3 := (Only.of_below hw).trans (O3.mono (fun k hk => by rcases hk with rfl | rfl <;> assumption))
  have O2 : Only (fun k => n0 ≤ k) w0 w4 := O1.trans (O4.mono (fun k hk => by
    rcases hk with rfl | hk
    · exact h3
    · have := own_base R.hv k hk; show n0 ≤ k; omega))
  exact ⟨⟨T3.kept R3 O4, ⟨v', T4⟩, h1, h2, h3, h4, Nat.le_trans h5 O2.size⟩, O2.below (by omega) (fun k hk => hk), ((Fr.below hw).trans (Fr.ofP S O3)).trans (Fr.ofR R3 O4)⟩

set_option maxRecDepth 100000 in
set_option maxHeartbeats 4000000 in
theorem play_post (w : World) (n0 base b m br : Nat) (s : Cb) (a : CAct) (h : St w n0 base b m br s) (ha : a.do_ = 0) :
    Calls Try.prog 10 #[.pointer (some ⟨b, 0, none⟩), .pointer (some ⟨br, 0, none⟩), a.val] w fun r w' => r = .returned (.bool true) ∧ St w' n0 base b m br (s.post a.core a.x) ∧ Below n0 w w' ∧ Fr w w' := by
  have HH := Lib.hid h
  obtain ⟨S, ⟨v, R⟩, h1, h2, h3, h4, h5⟩ := h
  have B1 : Below w.heap.size w (w.alloc (.cells a.cells 35)) := (Below.refl _ _).alloc (Nat.le_refl _) _
  have ok := S.ok
  have hbl := S.hb.choose_spec.1.lt
  have hml := S.hm.lt
  have hrl := R.hb.choose_spec.1.lt
  have hvl : ∀ k, v.ownBlock = some k → k < w.heap.size := fun k hk => by
    obtain ⟨t, cs, fz, hh⟩ := own_cells R.hv k hk
    exact (Array.getElem?_eq_some_iff.1 hh).1
  have x0 : (w.alloc (.cells a.cells 35)).cell? ⟨w.heap.size, 0, none⟩ = some (.int .i64 0) := by
    rw [(Blk.new w 35 a.cells).cell 0]; unfold CAct.cells; rw [ha]; rfl
  have x1 : (w.alloc (.cells a.cells 35)).cell? ⟨w.heap.size, 1, none⟩ = some (.int .i64 a.core) := (Blk.new w 35 a.cells).cell 1
  have S1 := Lib.hid (S.below B1)
  have R1 := Lib.hid (R.below B1)
  have hX := Lib.hid (Blk.new w 35 a.cells)
  have z8 := hX.out.rowOf
  have z9 := hX.out.plain
  obtain ⟨c, hc⟩ : ∃ c : Int, s.postE a.core = c := ⟨_, rfl⟩
  have HC := Lib.hid hc
  have HVL := Lib.hid hvl
  have OK := Lib.hid ok
  have B1' := Lib.hid B1
  clear S R B1 ha hc hvl ok
  go_enter Try.func10, Try.ntmps10
  go_wp2_with fail
  go_region_held3 (fun w' => w'.cell? ⟨w.heap.size, 1, none⟩ = some (.int .i64 a.core) ∧ rowOf w' w.heap.size = a.cells ∧ plainRow w' w.heap.size = true ∧ w.heap.size < w'.heap.size) (first | exact ⟨z1, z2, z3, z4⟩ | exact ⟨y1, y2, y3, y4⟩ | exact ⟨x1, z8, z9, by simp⟩ | go_keep)
    (first
    | (go_at_call 20; refine (post_at _ b m s a.core a.x (by exact S1.out.below (Below.refl _ _).drew)).mono ?_; rw [HC.out]; rintro r w3 ⟨rfl, T3, O3⟩; have hX3 : Blk w3 w.heap.size 35 a.cells := hX.out.drew.only O3 (by rintro (e | e) <;> omega); have z1 : w3.cell? ⟨w.heap.size, 1, none⟩ = some (.int .i64 a.core) := hX3.cell 1; have z2 := hX3.rowOf; have z3 := hX3.plain; have z4 := hX3.lt)
    | (go_at_call 24; refine (rPost_at _ base br v s a.core a.x OK.out ((R1.out.below (Below.refl _ _).drew).kept (S1.out.below (Below.refl _ _).drew) O3) (by have := O3.size; simp at this; omega)).mono ?_; rw [HC.out]; rintro r w4 ⟨rfl, v4, T4, O4⟩; have hX4 : Blk w4 w.heap.size 35 a.cells := hX3.only O4 (by rintro (e | e); omega; exact Nat.lt_irrefl _ (HVL.out _ e)); have y1 : w4.cell? ⟨w.heap.size, 1, none⟩ = some (.int .i64 a.core) := hX4.cell 1; have y2 := hX4.rowOf; have y3 := hX4.plain; have y4 := hX4.lt))
  all_goals
    go_wp2_with fail
    go_ret
    have R3 := (R1.out.below (Below.refl _ _).drew).kept (S1.out.below (Below.refl _ _).drew) O3
    exact ⟨rfl, St.mk_ HH.out B1'.out.drew (S1.out.below (Below.refl _ _).drew) (R1.out.below (Below.refl _ _).drew) T3 R3 T4 O3 O4⟩

set_option maxRecDepth 100000 in
set_option maxHeartbeats 4000000 in
theorem play_elect (w : World) (n0 base b m br : Nat) (s : Cb) (a : CAct) (h : St w n0 base b m br s) (ha : a.do_ = 1) :
    Calls Try.prog 10 #[.pointer (some ⟨b, 0, none⟩), .pointer (some ⟨br, 0, none⟩), a.val] w fun r w' => r = .returned (.bool true) ∧ St w' n0 base b m br (s.elect a.core) ∧ Below n0 w w' ∧ Fr w w' := by
  have HH := Lib.hid h
  obtain ⟨S, ⟨v, R⟩, h1, h2, h3, h4, h5⟩ := h
  have B1 : Below w.heap.size w (w.alloc (.cells a.cells 35)) := (Below.refl _ _).alloc (Nat.le_refl _) _
  have ok := S.ok
  have hbl := S.hb.choose_spec.1.lt
  have hml := S.hm.lt
  have hrl := R.hb.choose_spec.1.lt
  have hvl : ∀ k, v.ownBlock = some k → k < w.heap.size := fun k hk => by
    obtain ⟨t, cs, fz, hh⟩ := own_cells R.hv k hk
    exact (Array.getElem?_eq_some_iff.1 hh).1
  have x0 : (w.alloc (.cells a.cells 35)).cell? ⟨w.heap.size, 0, none⟩ = some (.int .i64 1) := by
    rw [(Blk.new w 35 a.cells).cell 0]; unfold CAct.cells; rw [ha]; rfl
  have x1 : (w.alloc (.cells a.cells 35)).cell? ⟨w.heap.size, 1, none⟩ = some (.int .i64 a.core) := (Blk.new w 35 a.cells).cell 1
  have S1 := Lib.hid (S.below B1)
  have R1 := Lib.hid (R.below B1)
  have hX := Lib.hid (Blk.new w 35 a.cells)
  obtain ⟨c, hc⟩ : ∃ c : Bool, s.canElect a.core = c := ⟨_, rfl⟩
  have HC := Lib.hid hc
  have HVL := Lib.hid hvl
  have OK := Lib.hid ok
  have B1' := Lib.hid B1
  clear S R B1 ha hc hvl ok
  go_enter Try.func10, Try.ntmps10
  go_wp2_with fail
  go_region_held3 (fun w' => w'.cell? ⟨w.heap.size, 1, none⟩ = some (.int .i64 a.core)) (first | exact z1 | exact y1 | go_keep)
    (first
    | (go_at_call 15; refine (elect_at _ b m s a.core (by exact S1.out.below (Below.refl _ _).drew)).mono ?_; rw [HC.out]; rintro r w3 ⟨rfl, T3, O3⟩; have hX3 : Blk w3 w.heap.size 35 a.cells := hX.out.drew.only O3 (by rintro (e | e) <;> omega); have z1 : w3.cell? ⟨w.heap.size, 1, none⟩ = some (.int .i64 a.core) := hX3.cell 1)
    | (go_at_call 25; refine (rElect_at _ base br v s a.core OK.out ((R1.out.below (Below.refl _ _).drew).kept (S1.out.below (Below.refl _ _).drew) O3)).mono ?_; rw [HC.out]; rintro r w4 ⟨rfl, T4, O4⟩; have hX4 : Blk w4 w.heap.size 35 a.cells := hX3.only O4 (by rintro (e | e); omega; exact Nat.lt_irrefl _ (HVL.out _ e)); have y1 : w4.cell? ⟨w.heap.size, 1, none⟩ = some (.int .i64 a.core) := hX4.cell 1))
  all_goals
    go_wp2_with fail
    go_ret
    have R3 := (R1.out.below (Below.refl _ _).drew).kept (S1.out.below (Below.refl _ _).drew) O3
    exact ⟨rfl, St.mk_ HH.out B1'.out.drew (S1.out.below (Below.refl _ _).drew) (R1.out.below (Below.refl _ _).drew) T3 R3 T4 O3 O4⟩

set_option maxRecDepth 100000 in
set_option maxHeartbeats 4000000 in
theorem play_deliver (w : World) (n0 base b m br : Nat) (s : Cb) (a : CAct) (h : St w n0 base b m br s) (ha : a.do_ = 2) :
    Calls Try.prog 10 #[.pointer (some ⟨b, 0, none⟩), .pointer (some ⟨br, 0, none⟩), a.val] w fun r w' => r = .returned (.bool true) ∧ St w' n0 base b m br (s.deliver a.index) ∧ Below n0 w w' ∧ Fr w w' := by
  have HH := Lib.hid h
  obtain ⟨S, ⟨v, R⟩, h1, h2, h3, h4, h5⟩ := h
  have B1 : Below w.heap.size w (w.alloc (.cells a.cells 35)) := (Below.refl _ _).alloc (Nat.le_refl _) _
  have ok := S.ok
  have hbl := S.hb.choose_spec.1.lt
  have hml := S.hm.lt
  have hrl := R.hb.choose_spec.1.lt
  have hvl : ∀ k, v.ownBlock = some k → k < w.heap.size := fun k hk => by
    obtain ⟨t, cs, fz, hh⟩ := own_cells R.hv k hk
    exact (Array.getElem?_eq_some_iff.1 hh).1
  have x0 : (w.alloc (.cells a.cells 35)).cell? ⟨w.heap.size, 0, none⟩ = some (.int .i64 2) := by
    rw [(Blk.new w 35 a.cells).cell 0]; unfold CAct.cells; rw [ha]; rfl
  have x1 : (w.alloc (.cells a.cells 35)).cell? ⟨w.heap.size, 10, none⟩ = some (.int .i64 a.index) := (Blk.new w 35 a.cells).cell 10
  have S1 := Lib.hid (S.below B1)
  have R1 := Lib.hid (R.below B1)
  have hX := Lib.hid (Blk.new w 35 a.cells)
  obtain ⟨c, hc⟩ : ∃ c : Int, s.deliverE a.index = c := ⟨_, rfl⟩
  have HC := Lib.hid hc
  have HVL := Lib.hid hvl
  have OK := Lib.hid ok
  have B1' := Lib.hid B1
  clear S R B1 ha hc hvl ok
  go_enter Try.func10, Try.ntmps10
  go_wp2_with fail
  go_region_held3 (fun w' => w'.cell? ⟨w.heap.size, 10, none⟩ = some (.int .i64 a.index)) (first | exact z1 | exact y1 | go_keep)
    (first
    | (go_at_call 16; refine (deliver_at _ b m s a.index (by exact S1.out.below (Below.refl _ _).drew)).mono ?_; rw [HC.out]; rintro r w3 ⟨rfl, T3, O3⟩; have hX3 : Blk w3 w.heap.size 35 a.cells := hX.out.drew.only O3 (by rintro (e | e) <;> omega); have z1 : w3.cell? ⟨w.heap.size, 10, none⟩ = some (.int .i64 a.index) := hX3.cell 10)
    | (go_at_call 26; refine (rDeliver_at _ base br v s a.index OK.out ((R1.out.below (Below.refl _ _).drew).kept (S1.out.below (Below.refl _ _).drew) O3)).mono ?_; rw [HC.out]; rintro r w4 ⟨rfl, T4, O4⟩; have hX4 : Blk w4 w.heap.size 35 a.cells := hX3.only O4 (by rintro (e | e); omega; exact Nat.lt_irrefl _ (HVL.out _ e)); have y1 : w4.cell? ⟨w.heap.size, 10, none⟩ = some (.int .i64 a.index) := hX4.cell 10))
  all_goals
    go_wp2_with fail
    go_ret
    have R3 := (R1.out.below (Below.refl _ _).drew).kept (S1.out.below (Below.refl _ _).drew) O3
    exact ⟨rfl, St.mk_ HH.out B1'.out.drew (S1.out.below (Below.refl _ _).drew) (R1.out.below (Below.refl _ _).drew) T3 R3 T4 O3 O4⟩

set_option maxRecDepth 100000 in
set_option maxHeartbeats 4000000 in
theorem play_done (w : World) (n0 base b m br : Nat) (s : Cb) (a : CAct) (h : St w n0 base b m br s) (ha : a.do_ = 3) (hf : a.fits) :
    Calls Try.prog 10 #[.pointer (some ⟨b, 0, none⟩), .pointer (some ⟨br, 0, none⟩), a.val] w fun r w' => r = .returned (.bool true) ∧ St w' n0 base b m br (s.done a.core) ∧ Below n0 w w' ∧ Fr w w' := by
  have HH := Lib.hid h
  obtain ⟨S, ⟨v, R⟩, h1, h2, h3, h4, h5⟩ := h
  have B1 : Below w.heap.size w (w.alloc (.cells a.cells 35)) := (Below.refl _ _).alloc (Nat.le_refl _) _
  have ok := S.ok
  have hbl := S.hb.choose_spec.1.lt
  have hml := S.hm.lt
  have hrl := R.hb.choose_spec.1.lt
  have hvl : ∀ k, v.ownBlock = some k → k < w.heap.size := fun k hk => by
    obtain ⟨t, cs, fz, hh⟩ := own_cells R.hv k hk
    exact (Array.getElem?_eq_some_iff.1 hh).1
  have x0 : (w.alloc (.cells a.cells 35)).cell? ⟨w.heap.size, 0, none⟩ = some (.int .i64 3) := by
    rw [(Blk.new w 35 a.cells).cell 0]; unfold CAct.cells; rw [ha]; rfl
  have x1 : (w.alloc (.cells a.cells 35)).cell? ⟨w.heap.size, 1, none⟩ = some (.int .i64 a.core) := (Blk.new w 35 a.cells).cell 1
  have S1 := Lib.hid (S.below B1)
  have R1 := Lib.hid (R.below B1)
  have hX := Lib.hid (Blk.new w 35 a.cells)
  obtain ⟨c, hc⟩ : ∃ c : Int, s.doneE a.core = c := ⟨_, rfl⟩
  have HC := Lib.hid hc
  have HVL := Lib.hid hvl
  have OK := Lib.hid ok
  have B1' := Lib.hid B1
  clear S R B1 ha hc hvl ok
  go_enter Try.func10, Try.ntmps10
  go_wp2_with fail
  go_region_held3 (fun w' => w'.cell? ⟨w.heap.size, 1, none⟩ = some (.int .i64 a.core)) (first | exact z1 | exact y1 | go_keep)
    (first
    | (go_at_call 18; refine (done_at _ b m s a.core (by exact S1.out.below (Below.refl _ _).drew) hf.1 hf.2).mono ?_; rw [HC.out]; rintro r w3 ⟨rfl, T3, O3⟩; have hX3 : Blk w3 w.heap.size 35 a.cells := hX.out.drew.only O3 (by rintro (e | e) <;> omega); have z1 : w3.cell? ⟨w.heap.size, 1, none⟩ = some (.int .i64 a.core) := hX3.cell 1)
    | (go_at_call 27; refine (rDone_at _ base br v s a.core OK.out ((R1.out.below (Below.refl _ _).drew).kept (S1.out.below (Below.refl _ _).drew) O3) (by have := O3.size; simp at this; omega)).mono ?_; rw [HC.out]; rintro r w4 ⟨rfl, v4, T4, O4⟩; have hX4 : Blk w4 w.heap.size 35 a.cells := hX3.only O4 (by rintro (e | e); omega; exact Nat.lt_irrefl _ (HVL.out _ e)); have y1 : w4.cell? ⟨w.heap.size, 1, none⟩ = some (.int .i64 a.core) := hX4.cell 1))
  all_goals
    go_wp2_with fail
    go_ret
    have R3 := (R1.out.below (Below.refl _ _).drew).kept (S1.out.below (Below.refl _ _).drew) O3
    exact ⟨rfl, St.mk_ HH.out B1'.out.drew (S1.out.below (Below.refl _ _).drew) (R1.out.below (Below.refl _ _).drew) T3 R3 T4 O3 O4⟩

set_option maxRecDepth 100000 in
set_option maxHeartbeats 4000000 in
theorem play_release (w : World) (n0 base b m br : Nat) (s : Cb) (a : CAct) (h : St w n0 base b m br s) (ha : a.do_ = 4) :
    Calls Try.prog 10 #[.pointer (some ⟨b, 0, none⟩), .pointer (some ⟨br, 0, none⟩), a.val] w fun r w' => r = .returned (.bool true) ∧ St w' n0 base b m br (s.release a.core) ∧ Below n0 w w' ∧ Fr w w' := by
  have HH := Lib.hid h
  obtain ⟨S, ⟨v, R⟩, h1, h2, h3, h4, h5⟩ := h
  have B1 : Below w.heap.size w (w.alloc (.cells a.cells 35)) := (Below.refl _ _).alloc (Nat.le_refl _) _
  have ok := S.ok
  have hbl := S.hb.choose_spec.1.lt
  have hml := S.hm.lt
  have hrl := R.hb.choose_spec.1.lt
  have hvl : ∀ k, v.ownBlock = some k → k < w.heap.size := fun k hk => by
    obtain ⟨t, cs, fz, hh⟩ := own_cells R.hv k hk
    exact (Array.getElem?_eq_some_iff.1 hh).1
  have x0 : (w.alloc (.cells a.cells 35)).cell? ⟨w.heap.size, 0, none⟩ = some (.int .i64 4) := by
    rw [(Blk.new w 35 a.cells).cell 0]; unfold CAct.cells; rw [ha]; rfl
  have x1 : (w.alloc (.cells a.cells 35)).cell? ⟨w.heap.size, 1, none⟩ = some (.int .i64 a.core) := (Blk.new w 35 a.cells).cell 1
  have S1 := Lib.hid (S.below B1)
  have R1 := Lib.hid (R.below B1)
  have hX := Lib.hid (Blk.new w 35 a.cells)
  obtain ⟨c, hc⟩ : ∃ c : Int, s.releaseE a.core = c := ⟨_, rfl⟩
  have HC := Lib.hid hc
  have HVL := Lib.hid hvl
  have OK := Lib.hid ok
  have B1' := Lib.hid B1
  clear S R B1 ha hc hvl ok
  go_enter Try.func10, Try.ntmps10
  go_wp2_with fail
  go_region_held3 (fun w' => w'.cell? ⟨w.heap.size, 1, none⟩ = some (.int .i64 a.core)) (first | exact z1 | exact y1 | go_keep)
    (first
    | (go_at_call 19; refine (release_at _ b m s a.core (by exact S1.out.below (Below.refl _ _).drew)).mono ?_; rw [HC.out]; rintro r w3 ⟨rfl, T3, O3⟩; have hX3 : Blk w3 w.heap.size 35 a.cells := hX.out.drew.only O3 (by rintro (e | e) <;> omega); have z1 : w3.cell? ⟨w.heap.size, 1, none⟩ = some (.int .i64 a.core) := hX3.cell 1)
    | (go_at_call 28; refine (rRelease_at _ base br v s a.core OK.out ((R1.out.below (Below.refl _ _).drew).kept (S1.out.below (Below.refl _ _).drew) O3)).mono ?_; rw [HC.out]; rintro r w4 ⟨rfl, T4, O4⟩; have hX4 : Blk w4 w.heap.size 35 a.cells := hX3.only O4 (by rintro (e | e); omega; exact Nat.lt_irrefl _ (HVL.out _ e)); have y1 : w4.cell? ⟨w.heap.size, 1, none⟩ = some (.int .i64 a.core) := hX4.cell 1))
  all_goals
    go_wp2_with fail
    go_ret
    have R3 := (R1.out.below (Below.refl _ _).drew).kept (S1.out.below (Below.refl _ _).drew) O3
    exact ⟨rfl, St.mk_ HH.out B1'.out.drew (S1.out.below (Below.refl _ _).drew) (R1.out.below (Below.refl _ _).drew) T3 R3 T4 O3 O4⟩

theorem play_else (w : World) (n0 base b m br : Nat) (s : Cb) (a : CAct) (h : St w n0 base b m br s) (h0 : a.do_ ≠ 0) (h1 : a.do_ ≠ 1) (h2 : a.do_ ≠ 2) (h3 : a.do_ ≠ 3) (h4 : a.do_ ≠ 4) :
    Calls Try.prog 10 #[.pointer (some ⟨b, 0, none⟩), .pointer (some ⟨br, 0, none⟩), a.val] w fun r w' => r = .returned (.bool true) ∧ St w' n0 base b m br s ∧ Below n0 w w' ∧ Fr w w' := by
  have e0 : (a.do_ == 0) = false := by simpa using h0
  have e1 : (a.do_ == 1) = false := by simpa using h1
  have e2 : (a.do_ == 2) = false := by simpa using h2
  have e3 : (a.do_ == 3) = false := by simpa using h3
  have e4 : (a.do_ == 4) = false := by simpa using h4
  have x0 : (w.alloc (.cells a.cells 35)).cell? ⟨w.heap.size, 0, none⟩ = some (.int .i64 a.do_) := (Blk.new w 35 a.cells).cell 0
  have H := Lib.hid h
  clear h h0 h1 h2 h3 h4
  go_enter Try.func10, Try.ntmps10
  go_wp2_with fail
  go_ret
  have B1 : Below w.heap.size w (w.alloc (.cells a.cells 35)) := (Below.refl _ _).alloc (Nat.le_refl _) _
  have hz := H.out
  exact ⟨rfl, hz.below B1, B1.mono (Nat.le_trans hz.n0z hz.hz), Fr.below B1⟩
theorem play_st (w : World) (n0 base b m br : Nat) (s : Cb) (a : CAct) (h : St w n0 base b m br s) (hf : a.fits) :
    Calls Try.prog 10 #[.pointer (some ⟨b, 0, none⟩), .pointer (some ⟨br, 0, none⟩), a.val] w fun r w' => r = .returned (.bool true) ∧ St w' n0 base b m br (s.step a) ∧ Below n0 w w' ∧ Fr w w' := by
  unfold Cb.step
  by_cases h0 : a.do_ = 0
  · rw [if_pos h0]; exact play_post w n0 base b m br s a h h0
  · rw [if_neg h0]
    by_cases h1 : a.do_ = 1
    · rw [if_pos h1]; exact play_elect w n0 base b m br s a h h1
    · rw [if_neg h1]
      by_cases h2 : a.do_ = 2
      · rw [if_pos h2]; exact play_deliver w n0 base b m br s a h h2
      · rw [if_neg h2]
        by_cases h3 : a.do_ = 3
        · rw [if_pos h3]; exact play_done w n0 base b m br s a h h3 hf
        · rw [if_neg h3]
          by_cases h4 : a.do_ = 4
          · rw [if_pos h4]; exact play_release w n0 base b m br s a h h4
          · rw [if_neg h4]; exact play_else w n0 base b m br s a h h0 h1 h2 h3 h4
end Go.Proofs.Ytaibhhppdmncfaa
