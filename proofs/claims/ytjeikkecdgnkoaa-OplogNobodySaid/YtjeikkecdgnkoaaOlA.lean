/- Oplog: what a log keeps, as plain lists; how it lies in memory; the contracts of New, Cap, Head, Tail, Advance, Append of both texts. -/
import Derived.Test.YtjeikkecdgnkoaaL0
import Derived.Test.YtjeikkecdgnkoaaProg
namespace Go.Proofs.Ytjeikkecdgnkoaa
open Go.RowKit

/-- An entry: nine numbers. -/
structure Ent where
  a0 : Int
  a1 : Int
  a2 : Int
  a3 : Int
  a4 : Int
  a5 : Int
  a6 : Int
  a7 : Int
  a8 : Int
def Ent.cells (e : Ent) : List Value := [.int .i64 e.a0, .int .i64 e.a1, .int .i64 e.a2, .int .i64 e.a3, .int .i64 e.a4, .int .i64 e.a5, .int .i64 e.a6, .int .i64 e.a7, .int .i64 e.a8]
@[simp] theorem Ent.length_cells (e : Ent) : e.cells.length = 9 := rfl
theorem Ent.one (e : Ent) : ∀ v ∈ e.cells, v.oneCell' = true := by
  intro v hv
  simp only [Ent.cells, List.mem_cons, List.not_mem_nil, or_false] at hv
  rcases hv with rfl | rfl | rfl | rfl | rfl | rfl | rfl | rfl | rfl <;> rfl
abbrev Ent.val (e : Ent) : Value := .agg e.cells.toArray
def flat (l : List Ent) : List Value := l.flatMap Ent.cells
theorem length_flat (l : List Ent) : (flat l).length = l.length * 9 := by
  induction l with
  | nil => rfl
  | cons e l ih => simp only [flat, List.flatMap_cons, List.length_append, Ent.length_cells, List.length_cons] at *; omega
theorem flat_snoc (l : List Ent) (e : Ent) : flat (l ++ [e]) = flat l ++ e.cells := by simp [flat]

/-- What a log keeps: its slots, the index of the eldest entry, all that was ever appended. -/
structure Ol where
  slots : Nat
  first : Nat
  l : List Ent

/-- Such a state may be. -/
structure Ol.ok (s : Ol) : Prop where
  s1 : 1 ≤ s.slots
  s2 : s.slots ≤ 1024
  f : s.first ≤ s.l.length
  n : s.l.length ≤ s.first + s.slots

/-- A *oplog.Log at block b, its entries at block e. -/
structure LogAt (w : World) (b e : Nat) (s : Ol) : Prop where
  ok : s.ok
  hb : Blk w b 48 #[.slice (some ⟨e, 0, none⟩) s.slots s.slots, .int .i64 s.first, .int .i64 s.l.length]
  he : ∃ cs, Blk w e 35 cs ∧ cs.size = s.slots * 9 ∧ ∀ i x, s.first ≤ i → s.l[i]? = some x → cs.extract (i % s.slots * 9) (i % s.slots * 9 + 9) = x.cells.toArray

/-- A *basinref11.Log at block b, its list a row of its own, from block base on. -/
structure RefAt (w : World) (base b : Nat) (v : Value) (s : Ol) : Prop where
  hb : Blk w b 46 #[.int .i64 s.slots, .int .i64 s.first, v]
  hv : w.ownsRow base 35 9 v s.l.length (flat s.l)

theorem LogAt.only {w w' : World} {b e : Nat} {s : Ol} {S : Nat → Prop} (h : LogAt w b e s) (ho : Only S w w') (h1 : ¬ S b) (h2 : ¬ S e) : LogAt w' b e s := by
  obtain ⟨ok, hb, cs, hc, hs, hx⟩ := h
  exact ⟨ok, hb.only ho h1, cs, hc.only ho h2, hs, hx⟩
theorem LogAt.below {w w' : World} {b e : Nat} {s : Ol} (h : LogAt w b e s) (hb : Below w.heap.size w w') : LogAt w' b e s :=
  h.only (S := fun _ => False) (Only.of_below hb) (fun h => h) (fun h => h)
theorem RefAt.only {w w' : World} {base b : Nat} {v : Value} {s : Ol} {S : Nat → Prop} (h : RefAt w base b v s) (ho : Only S w w') (h1 : ¬ S b) (h2 : ∀ k, v.ownBlock = some k → ¬ S k) : RefAt w' base b v s :=
  ⟨h.hb.only ho h1, own_only h.hv ho h2⟩
theorem RefAt.below {w w' : World} {base b : Nat} {v : Value} {s : Ol} (h : RefAt w base b v s) (hb : Below w.heap.size w w') : RefAt w' base b v s :=
  h.only (S := fun _ => False) (Only.of_below hb) (fun h => h) (fun _ _ h => h)
theorem LogAt.ne {w : World} {b e : Nat} {s : Ol} (h : LogAt w b e s) : b ≠ e := by
  obtain ⟨_, hb, cs, hc, _⟩ := h
  exact hb.ne_ hc (by decide)

/-! ### Cap, Head, Tail -/

theorem cap_nil (w : World) : Calls Try.prog 16 #[.pointer none] w fun e w' => e = .returned (.int .i64 0) ∧ w = w' := by
  go_enter Try.func16, Try.ntmps16
  go_wp2
  go_ret
  exact ⟨rfl, rfl⟩
theorem cap_blk (w : World) (b : Nat) (a : Option Addr) (n c : Nat) (x y : Value) (h : Blk w b 48 #[.slice a n c, x, y]) : Calls Try.prog 16 #[.pointer (some ⟨b, 0, none⟩)] w fun e w' => e = .returned (.int .i64 n) ∧ w = w' := by
  have h0 : w.cell? ⟨b, 0, none⟩ = some (.slice a n c) := h.cell 0
  clear h
  go_enter Try.func16, Try.ntmps16
  go_wp2
  go_ret
  exact ⟨rfl, rfl⟩
theorem head_nil (w : World) : Calls Try.prog 13 #[.pointer none] w fun e w' => e = .returned (.int .i64 0) ∧ w = w' := by
  go_enter Try.func13, Try.ntmps13
  go_wp2
  go_ret
  exact ⟨rfl, rfl⟩
theorem head_blk (w : World) (b : Nat) (k : Int) (x y : Value) (h : Blk w b 48 #[x, .int .i64 k, y]) : Calls Try.prog 13 #[.pointer (some ⟨b, 0, none⟩)] w fun e w' => e = .returned (.int .i64 k) ∧ w = w' := by
  have h0 : w.cell? ⟨b, 1, none⟩ = some (.int .i64 k) := h.cell 1
  clear h
  go_enter Try.func13, Try.ntmps13
  go_wp2
  go_ret
  exact ⟨rfl, rfl⟩
theorem tail_nil (w : World) : Calls Try.prog 14 #[.pointer none] w fun e w' => e = .returned (.int .i64 0) ∧ w = w' := by
  go_enter Try.func14, Try.ntmps14
  go_wp2
  go_ret
  exact ⟨rfl, rfl⟩
theorem tail_blk (w : World) (b : Nat) (k : Int) (x y : Value) (h : Blk w b 48 #[x, y, .int .i64 k]) : Calls Try.prog 14 #[.pointer (some ⟨b, 0, none⟩)] w fun e w' => e = .returned (.int .i64 k) ∧ w = w' := by
  have h0 : w.cell? ⟨b, 2, none⟩ = some (.int .i64 k) := h.cell 2
  clear h
  go_enter Try.func14, Try.ntmps14
  go_wp2
  go_ret
  exact ⟨rfl, rfl⟩

/-! ### Advance -/

/-- What Advance does. -/
def Ol.adv (s : Ol) (to : Int) : Ol := if (s.first : Int) ≤ to ∧ to ≤ s.l.length then { s with first := to.toNat } else s
def Ol.advE (s : Ol) (to : Int) : Int := if (s.first : Int) ≤ to ∧ to ≤ s.l.length then 0 else 1
theorem Ol.adv_ok {s : Ol} (h : s.ok) (to : Int) : (s.adv to).ok := by
  unfold Ol.adv
  split
  · obtain ⟨h1, h2, h3, h4⟩ := h
    exact ⟨h1, h2, by show to.toNat ≤ s.l.length; omega, by show s.l.length ≤ to.toNat + s.slots; omega⟩
  · exact h

theorem adv_yes (w : World) (b n hd tl : Nat) (a : Option Addr) (c : Nat) (to : Int) (hn : 1 ≤ n) (h : Blk w b 48 #[.slice a n c, .int .i64 hd, .int .i64 tl]) (h1 : (hd : Int) ≤ to) (h2 : to ≤ tl) :
    Calls Try.prog 17 #[.pointer (some ⟨b, 0, none⟩), .int .i64 to] w fun e w' => e = .returned (.int .i64 0) ∧ w.setCell ⟨b, 1, none⟩ (.int .i64 to) = w' := by
  have c1 : w.cell? ⟨b, 1, none⟩ = some (.int .i64 hd) := h.cell 1
  have c2 : w.cell? ⟨b, 2, none⟩ = some (.int .i64 tl) := h.cell 2
  have f1 : w.frozen? ⟨b, 1, none⟩ = false := h.frozen 1
  have hz : ((n : Int) == 0) = false := by simp; omega
  have H := Lib.hid h; clear h
  go_enter Try.func17, Try.ntmps17
  go_wp2_with (go_at_call 16; refine (cap_blk _ _ _ _ _ _ _ H.out).mono ?_; rintro e w' ⟨rfl, rfl⟩)
  go_ret
  exact ⟨rfl, rfl⟩
theorem adv_no (w : World) (b n hd tl : Nat) (a : Option Addr) (c : Nat) (to : Int) (hn : 1 ≤ n) (h : Blk w b 48 #[.slice a n c, .int .i64 hd, .int .i64 tl]) (h1 : to < (hd : Int) ∨ (tl : Int) < to) :
    Calls Try.prog 17 #[.pointer (some ⟨b, 0, none⟩), .int .i64 to] w fun e w' => e = .returned (.int .i64 1) ∧ w = w' := by
  have c1 : w.cell? ⟨b, 1, none⟩ = some (.int .i64 hd) := h.cell 1
  have c2 : w.cell? ⟨b, 2, none⟩ = some (.int .i64 tl) := h.cell 2
  have hz : ((n : Int) == 0) = false := by simp; omega
  have H := Lib.hid h; clear h
  by_cases hlt : to < (hd : Int)
  · clear h1
    go_enter Try.func17, Try.ntmps17
    go_wp2_with (go_at_call 16; refine (cap_blk _ _ _ _ _ _ _ H.out).mono ?_; rintro e w' ⟨rfl, rfl⟩)
    go_ret
    exact ⟨rfl, rfl⟩
  · have h2 : (tl : Int) < to := by omega
    clear h1
    go_enter Try.func17, Try.ntmps17
    go_wp2_with (go_at_call 16; refine (cap_blk _ _ _ _ _ _ _ H.out).mono ?_; rintro e w' ⟨rfl, rfl⟩)
    go_ret
    exact ⟨rfl, rfl⟩
theorem adv_nil (w : World) (to : Int) : Calls Try.prog 17 #[.pointer none, .int .i64 to] w fun e w' => e = .returned (.int .i64 1) ∧ w = w' := by
  go_enter Try.func17, Try.ntmps17
  go_wp2_with (go_at_call 16; refine (cap_nil _).mono ?_; rintro e w' ⟨rfl, rfl⟩)
  go_ret
  exact ⟨rfl, rfl⟩
theorem adv_none (w : World) (b c : Nat) (a : Option Addr) (x y : Value) (to : Int) (h : Blk w b 48 #[.slice a 0 c, x, y]) :
    Calls Try.prog 17 #[.pointer (some ⟨b, 0, none⟩), .int .i64 to] w fun e w' => e = .returned (.int .i64 1) ∧ w = w' := by
  have H := Lib.hid h; clear h
  go_enter Try.func17, Try.ntmps17
  go_wp2_with (go_at_call 16; refine (cap_blk _ _ _ _ _ _ _ H.out).mono ?_; rintro e w' ⟨rfl, rfl⟩)
  go_ret
  exact ⟨rfl, rfl⟩

theorem adv_log (w : World) (b e : Nat) (s : Ol) (to : Int) (h : LogAt w b e s) :
    Calls Try.prog 17 #[.pointer (some ⟨b, 0, none⟩), .int .i64 to] w fun x w' => x = .returned (.int .i64 (s.advE to)) ∧ LogAt w' b e (s.adv to) ∧ Only (· = b) w w' := by
  have hne := h.ne
  have hok := Ol.adv_ok h.ok to
  obtain ⟨ok, hb, cs, hc, hs, hx⟩ := h
  by_cases hh : (s.first : Int) ≤ to ∧ to ≤ s.l.length
  · refine (adv_yes w b _ _ _ _ _ to ok.s1 hb hh.1 hh.2).mono ?_
    rintro x w' ⟨rfl, rfl⟩
    have e1 : s.adv to = { s with first := to.toNat } := by unfold Ol.adv; rw [if_pos hh]
    rw [e1] at hok ⊢
    refine ⟨by unfold Ol.advE; rw [if_pos hh], ⟨hok, ?_, cs, hc.far (p := ⟨b, 1, none⟩) (Ne.symm hne) _, hs, fun i x hi hl => hx i x (by show s.first ≤ i; have : to.toNat ≤ i := hi; omega) hl⟩, (Only.refl (· = b) w).setCell (p := ⟨b, 1, none⟩) (.inl rfl) _⟩
    have := hb.set_ 1 (.int .i64 to)
    have e2 : ((to.toNat : Nat) : Int) = to := by omega
    simpa [e2] using this
  · refine (adv_no w b _ _ _ _ _ to ok.s1 hb (by omega)).mono ?_
    rintro x w' ⟨rfl, rfl⟩
    have e1 : s.adv to = s := by unfold Ol.adv; rw [if_neg hh]
    rw [e1]
    exact ⟨by unfold Ol.advE; rw [if_neg hh], ⟨ok, hb, cs, hc, hs, hx⟩, Only.refl _ _⟩

theorem rAdv_yes (w : World) (b hd : Nat) (x : Value) (a : Option Addr) (n c : Nat) (to : Int) (h : Blk w b 46 #[x, .int .i64 hd, .slice a n c]) (h1 : (hd : Int) ≤ to) (h2 : to ≤ n) :
    Calls Try.prog 21 #[.pointer (some ⟨b, 0, none⟩), .int .i64 to] w fun e w' => e = .returned (.int .i64 0) ∧ w.setCell ⟨b, 1, none⟩ (.int .i64 to) = w' := by
  have c1 : w.cell? ⟨b, 1, none⟩ = some (.int .i64 hd) := h.cell 1
  have c2 : w.cell? ⟨b, 2, none⟩ = some (.slice a n c) := h.cell 2
  have f1 : w.frozen? ⟨b, 1, none⟩ = false := h.frozen 1
  clear h
  go_enter Try.func21, Try.ntmps21
  go_wp2
  go_ret
  exact ⟨rfl, rfl⟩
theorem rAdv_no (w : World) (b hd : Nat) (x : Value) (a : Option Addr) (n c : Nat) (to : Int) (h : Blk w b 46 #[x, .int .i64 hd, .slice a n c]) (h1 : to < (hd : Int) ∨ (n : Int) < to) :
    Calls Try.prog 21 #[.pointer (some ⟨b, 0, none⟩), .int .i64 to] w fun e w' => e = .returned (.int .i64 1) ∧ w = w' := by
  have c1 : w.cell? ⟨b, 1, none⟩ = some (.int .i64 hd) := h.cell 1
  have c2 : w.cell? ⟨b, 2, none⟩ = some (.slice a n c) := h.cell 2
  clear h
  by_cases hlt : to < (hd : Int)
  · clear h1
    go_enter Try.func21, Try.ntmps21
    go_wp2
    go_ret
    exact ⟨rfl, rfl⟩
  · have h2 : (n : Int) < to := by omega
    clear h1
    go_enter Try.func21, Try.ntmps21
    go_wp2
    go_ret
    exact ⟨rfl, rfl⟩
end Go.Proofs.Ytjeikkecdgnkoaa
