/- Script: the program's Line. -/
import Derived.Test.YtccoafacbbkooaaGreatDoorScZ
namespace Go.Proofs.YtccoafacbbkooaaGreatDoor
open Go.RowKit Go.Maps

theorem neqItem (x y : Itm) (w : World) : (binOp .neq 29 (.agg x.arr) (.agg y.arr)).run Tryz.prog w = .ok (.bool (!decide (x = y))) w := by
  have h := eqlItem x y w
  obtain ⟨d, hd⟩ : ∃ d, decide (x = y) = d := ⟨_, rfl⟩
  rw [hd] at h ⊢
  rw [run_eql_struct] at h
  rw [run_neq_struct]
  cases hr : (Op.equalIn 10000 29 (.agg x.arr) (.agg y.arr)).run Tryz.prog w with
  | ok b w' =>
    rw [hr] at h
    have h' : Result.ok (Value.bool b) w' = Result.ok (Value.bool d) w := h
    obtain ⟨h1, h2⟩ := Result.ok.inj h'
    have h3 := Value.bool.inj h1
    show Result.ok (Value.bool (!b)) w' = _
    rw [h2, h3]
  | halt a w' =>
    rw [hr] at h
    cases h
attribute [go_sem high] neqItem
/-- What Line tells. -/
def lineV (o : Option Wd) : Value := .tuple #[.string (bs (o.getD [])), .int .i64 (if o.isSome then 0 else 5)]

set_option maxRecDepth 100000 in
set_option maxHeartbeats 4000000 in
theorem Line_w (w : World) (x : Itm) (h : Wide x) (ht : Tab w) (hm : MaxAt w) :
    Calls Tryz.prog 5 #[.agg x.arr] w fun e w' => e = .returned (lineV (LineP x)) ∧ Below w.heap.size w w' := by
  have B0 : Below w.heap.size w (w.alloc (.cells x.arr 29)) := (Below.refl _ _).alloc (Nat.le_refl _) _
  have P0 : Blk (w.alloc (.cells x.arr 29)) w.heap.size 29 x.arr := Blk.new _ _ _
  have hl := line_w _ x h (ht.below B0)
  have hr := fun (W : World) (hM : MaxAt W) => read_w W (lineP x) hM (by have := lineP_len x h; omega)
  have hres : LineP x = if readP (wordsL (lineP x)) = some x then some (lineP x) else none := rfl
  obtain ⟨o, ho⟩ : ∃ o, readP (wordsL (lineP x)) = o := ⟨_, rfl⟩
  simp only [ho] at hr
  rw [ho] at hres
  rw [hres]
  obtain ⟨s, hs⟩ : ∃ s, bs (lineP x) = s := ⟨_, rfl⟩
  rw [hs] at hl
  simp only [hs] at hr
  have HL := Lib.hid hl
  have HM := Lib.hid hm
  have HP0 := Lib.hid P0
  have HB0 := Lib.hid B0
  have HS := Lib.hid hs
  clear hl hm P0 B0 hs hres ho ht h
  cases o with
  | none =>
    have e1 : lineV (if (none : Option Itm) = some x then some (lineP x) else none) = .tuple #[.string { data := #[] }, .int .i64 5] := rfl
    have e2 : resV none = .tuple #[.agg i0.arr, .int .i64 5] := rfl
    rw [e1]
    simp only [e2] at hr
    have HR := Lib.hid hr
    clear hr e1 e2
    go_enter Tryz.func5, Tryz.ntmps5
    go_wp2_with (first
      | (go_at_call 13; refine (HL.out).mono ?_; rintro e w1 ⟨rfl, B⟩; have HB1 := Lib.hid (HB0.out.trans (B.mono (by simp))); clear B)
      | (go_at_call 8; refine (HR.out _ (HM.out.below HB1.out)).mono ?_; rintro e w2 ⟨rfl, B⟩; have HB2 := Lib.hid (HB1.out.trans (B.mono HB1.out.size)); clear B))
    go_ret2
    exact ⟨rfl, HB2.out.alloc HB2.out.size _⟩
  | some y =>
    have e2 : resV (some y) = .tuple #[.agg y.arr, .int .i64 0] := rfl
    simp only [e2] at hr
    have HR := Lib.hid hr
    clear hr e2
    by_cases hy : y = x
    · have e1 : lineV (if some y = some x then some (lineP x) else none) = .tuple #[.string s, .int .i64 0] := by rw [hy, if_pos rfl, ← HS.out]; rfl
      rw [e1]
      subst hy
      have hd : decide (y = y) = true := decide_eq_true rfl
      clear e1
      go_enter Tryz.func5, Tryz.ntmps5
      go_wp2_with (first
        | (go_at_call 13; refine (HL.out).mono ?_; rintro e w1 ⟨rfl, B⟩; have P := HP0.out.below B HP0.out.lt; have HP1 := Lib.hid P; have HB1 := Lib.hid (HB0.out.trans (B.mono (by simp))); clear B P)
        | (go_at_call 8; refine (HR.out _ (HM.out.below HB1.out)).mono ?_; rintro e w2 ⟨rfl, B⟩; have P := HP1.out.below B HP1.out.lt; have kr := P.rowOf; have kp := P.plain; have kl := P.lt; have HB2 := Lib.hid (HB1.out.trans (B.mono HB1.out.size)); clear B P))
      go_ret2
      exact ⟨rfl, HB2.out.alloc HB2.out.size _⟩
    · have e1 : lineV (if some y = some x then some (lineP x) else none) = .tuple #[.string { data := #[] }, .int .i64 5] := by rw [if_neg (fun e => hy (Option.some.inj e))]; rfl
      rw [e1]
      have hd : decide (y = x) = false := decide_eq_false hy
      clear e1 hy
      go_enter Tryz.func5, Tryz.ntmps5
      go_wp2_with (first
        | (go_at_call 13; refine (HL.out).mono ?_; rintro e w1 ⟨rfl, B⟩; have P := HP0.out.below B HP0.out.lt; have HP1 := Lib.hid P; have HB1 := Lib.hid (HB0.out.trans (B.mono (by simp))); clear B P)
        | (go_at_call 8; refine (HR.out _ (HM.out.below HB1.out)).mono ?_; rintro e w2 ⟨rfl, B⟩; have P := HP1.out.below B HP1.out.lt; have kr := P.rowOf; have kp := P.plain; have kl := P.lt; have HB2 := Lib.hid (HB1.out.trans (B.mono HB1.out.size)); clear B P))
      go_ret2
      exact ⟨rfl, HB2.out.alloc HB2.out.size _⟩
end Go.Proofs.YtccoafacbbkooaaGreatDoor
