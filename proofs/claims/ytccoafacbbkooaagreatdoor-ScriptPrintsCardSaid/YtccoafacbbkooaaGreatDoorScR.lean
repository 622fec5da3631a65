/- Script: the reference's job (whole), read. Printed by mkScR.py. -/
import Derived.Test.YtccoafacbbkooaaGreatDoorScQ
namespace Go.Proofs.YtccoafacbbkooaaGreatDoor
open Go.RowKit Go.Maps

def jobRr (x : Wd) (ns : List Nat) : Option Itm := match jobK x with
  | none => none
  | some k => if k = 2 then (match ns with | [a, b] => some { i0 with kind := 3, who := a, jk := 2, jp := b } | _ => none)
    else (match ns with | [a, b, c] => some { i0 with kind := 3, who := a, jk := k, jp := b, jn := c } | _ => none)
set_option maxRecDepth 100000 in
theorem job_r (w : World) (q v : Value) (x : Wd) (l : List Wd) (base : Nat) (ns : List Nat) (h : StrAt w q (x :: l)) (hv : w.ownsRow base 3 1 v ns.length (nums ns)) :
    Calls Tryz.prog 33 #[q, v] w fun e w' => RiPost (jobRr x ns) e ∧ Below w.heap.size w w' := by
  obtain ⟨g, off, c, q', rfl, hcl, hc, hg, hq', _⟩ := h.head
  by_cases hs : ns.length < 2
  · have e : jobRr x ns = none := by
      unfold jobRr
      match ns, hs with
      | [], _ => cases jobK x <;> simp
      | [a], _ => cases jobK x <;> simp
      | a :: b :: t, hs => exact absurd hs (by simp)
    rw [e]
    have : ∃ a1 n1 c1, v = .slice a1 n1 c1 ∧ n1 < 2 := by
      rcases hv.2 with ⟨hv, _⟩ | ⟨g1, cap, cur, hv, _⟩
      · exact ⟨_, _, _, hv, by omega⟩
      · exact ⟨_, _, _, hv, hs⟩
    obtain ⟨a1, n1, c1, rfl, hn⟩ := this
    exact rj_short w g off _ c a1 n1 c1 hn
  · match ns, hv, hs with
    | [], _, hs => exact absurd (by simp) hs
    | [a], _, hs => exact absurd (by simp) hs
    | p :: q2 :: t, hv, hs =>
      obtain ⟨u, cu, rfl, hbu, hu, hcu, hk⟩ := own_get hv (by simp)
      have k0 := hk 0 p rfl
      have k1 := hk 1 q2 rfl
      have h2 : 2 ≤ (p :: q2 :: t).length := by simp
      by_cases h1 : x = kSplit
      · have ej : jobK x = some 2 := by rw [h1]; rfl
        match t, hk, h2 with
        | [], _, _ =>
          have e : jobRr x [p, q2] = some { i0 with kind := 3, who := (p : Int), jp := (q2 : Int), jk := 2 } := by simp [jobRr, ej]
          rw [e]
          exact rj_Split w g off _ c x hc hg (by simp) u _ cu p q2 k0 k1 hu h1 rfl
        | r :: t, _, _ =>
          have e : jobRr x (p :: q2 :: r :: t) = none := by simp [jobRr, ej]
          rw [e]
          exact rj_noSplit w g off _ c x hc hg (by simp) u _ cu p q2 k0 k1 hu h1 (by simp)
      by_cases hMove : x = kMove
      · have ej : jobK x = some 1 := by rw [hMove]; rfl
        match t, hk, h2 with
        | [r], hk, _ =>
          have e : jobRr x [p, q2, r] = some { i0 with kind := 3, who := (p : Int), jp := (q2 : Int), jk := 1, jn := (r : Int) } := by simp [jobRr, ej]
          rw [e]
          exact rj_Move w g off _ c x hc hg (by simp) u _ cu p q2 k0 k1 hu r (hk 2 r rfl) hMove rfl
        | [], _, h2 =>
          have e : jobRr x [p, q2] = none := by simp [jobRr, ej]
          rw [e]
          exact rj_noMove w g off _ c x hc hg (by simp) u _ cu p q2 k0 k1 hu h2 hMove (by simp)
        | r :: r2 :: t, _, h2 =>
          have e : jobRr x (p :: q2 :: r :: r2 :: t) = none := by simp [jobRr, ej]
          rw [e]
          exact rj_noMove w g off _ c x hc hg (by simp) u _ cu p q2 k0 k1 hu h2 hMove (by simp)
      by_cases hJoin : x = kJoin
      · have ej : jobK x = some 3 := by rw [hJoin]; rfl
        match t, hk, h2 with
        | [r], hk, _ =>
          have e : jobRr x [p, q2, r] = some { i0 with kind := 3, who := (p : Int), jp := (q2 : Int), jk := 3, jn := (r : Int) } := by simp [jobRr, ej]
          rw [e]
          exact rj_Join w g off _ c x hc hg (by simp) u _ cu p q2 k0 k1 hu r (hk 2 r rfl) hJoin rfl
        | [], _, h2 =>
          have e : jobRr x [p, q2] = none := by simp [jobRr, ej]
          rw [e]
          exact rj_noJoin w g off _ c x hc hg (by simp) u _ cu p q2 k0 k1 hu h2 hJoin (by simp)
        | r :: r2 :: t, _, h2 =>
          have e : jobRr x (p :: q2 :: r :: r2 :: t) = none := by simp [jobRr, ej]
          rw [e]
          exact rj_noJoin w g off _ c x hc hg (by simp) u _ cu p q2 k0 k1 hu h2 hJoin (by simp)
      by_cases hCopy : x = kCopy
      · have ej : jobK x = some 4 := by rw [hCopy]; rfl
        match t, hk, h2 with
        | [r], hk, _ =>
          have e : jobRr x [p, q2, r] = some { i0 with kind := 3, who := (p : Int), jp := (q2 : Int), jk := 4, jn := (r : Int) } := by simp [jobRr, ej]
          rw [e]
          exact rj_Copy w g off _ c x hc hg (by simp) u _ cu p q2 k0 k1 hu r (hk 2 r rfl) hCopy rfl
        | [], _, h2 =>
          have e : jobRr x [p, q2] = none := by simp [jobRr, ej]
          rw [e]
          exact rj_noCopy w g off _ c x hc hg (by simp) u _ cu p q2 k0 k1 hu h2 hCopy (by simp)
        | r :: r2 :: t, _, h2 =>
          have e : jobRr x (p :: q2 :: r :: r2 :: t) = none := by simp [jobRr, ej]
          rw [e]
          exact rj_noCopy w g off _ c x hc hg (by simp) u _ cu p q2 k0 k1 hu h2 hCopy (by simp)
      · have ej : jobK x = none := by unfold jobK; rw [if_neg hMove, if_neg h1, if_neg hJoin, if_neg hCopy]
        have e : jobRr x (p :: q2 :: t) = none := by simp [jobRr, ej]
        rw [e]
        exact rj_other w g off _ c x hc hg (by simp) u _ cu p q2 k0 k1 hu h2 h1 hMove hJoin hCopy

theorem own_form {w : World} {base : Nat} {e : TypeId} {size n : Nat} {v : Value} {xs : List Value} (h : w.ownsRow base e size v n xs) : ∃ a c, v = .slice a n c := by
  rcases h.2 with ⟨hv, h0⟩ | ⟨g1, cap, cur, hv, _⟩
  · exact ⟨none, 0, by rw [hv, h0]⟩
  · exact ⟨_, _, hv⟩
theorem StrAt.headN {w : World} {q : Value} {x : Wd} {ws : List Wd} {N : Nat} (h : StrAt w q (x :: ws)) (hN : ws.length + 1 = N) :
    ∃ g off c a' n' c', q = .slice (some ⟨g, off, none⟩) N c ∧ w.cell? ⟨g, off, none⟩ = some (.string (bs x)) ∧ g < w.heap.size ∧ 0 < N ∧ StrAt w (.slice a' n' c') ws ∧
      (∀ W, (Instr.slice 48 (.slice (some ⟨g, off, none⟩) N c) (some (.int .i64 1)) none none).run Tryz.prog W = .ok (.slice a' n' c') W) := by
  subst hN
  obtain ⟨g, off, c, q', rfl, hcl, hc, hg, hq', hsl, a', n', c', rfl⟩ := h.head
  exact ⟨g, off, c, a', n', c', rfl, hc, hg, by omega, hq', hsl⟩

set_option maxRecDepth 100000 in
set_option maxHeartbeats 4000000 in
theorem rr_call (w : World) (ln : Wd) (hln : ln.length < 4294967281) (x : Wd) (l : List Wd) (N : Nat) (hN : l.length + 1 = N) (hw : wordsL ln = x :: l) (p : Nat) (hnum : numL x = some p) (y : Wd) (t : List Wd) (hl : l = y :: t) (ht : t.length < 4294967296) (o : Option Cl) (hC : callR (y :: t) = o) :
    Calls Tryz.prog 16 #[.string (bs ln)] w fun e w' => RiPost (o.map fun c => ({ i0 with kind := 1, who := (p : Int), call := c } : Itm)) e ∧ Below w.heap.size w w' := by
  have B1 : Below w.heap.size w (w.alloc (.cells #[.int .i64 0, .int .i64 0, .int .i64 0, .int .i64 0, .int .i64 0, .int .i64 0, .int .i64 0, .int .i64 0, .int .i64 0, .int .i64 0, .int .i64 0, .int .i64 0, .int .i64 0, .int .i64 0] 29)) := (Below.refl _ _).alloc (Nat.le_refl _) _
  have P1 : Blk (w.alloc (.cells #[.int .i64 0, .int .i64 0, .int .i64 0, .int .i64 0, .int .i64 0, .int .i64 0, .int .i64 0, .int .i64 0, .int .i64 0, .int .i64 0, .int .i64 0, .int .i64 0, .int .i64 0, .int .i64 0] 29)) w.heap.size 29 #[.int .i64 0, .int .i64 0, .int .i64 0, .int .i64 0, .int .i64 0, .int .i64 0, .int .i64 0, .int .i64 0, .int .i64 0, .int .i64 0, .int .i64 0, .int .i64 0, .int .i64 0, .int .i64 0] := Blk.new _ _ _
  have hws := words_r ln (w.alloc (.cells #[.int .i64 0, .int .i64 0, .int .i64 0, .int .i64 0, .int .i64 0, .int .i64 0, .int .i64 0, .int .i64 0, .int .i64 0, .int .i64 0, .int .i64 0, .int .i64 0, .int .i64 0, .int .i64 0] 29)) hln
  rw [hw] at hws
  obtain ⟨s0, hs0⟩ : ∃ s, bs ln = s := ⟨_, rfl⟩
  rw [hs0] at hws ⊢
  obtain ⟨s, hs⟩ : ∃ s, bs x = s := ⟨_, rfl⟩
  have htl : s.toList = x := by rw [← hs]; exact bs_toList x
  have hnw := fun (W : World) => number_r x W
  have hv : numR x = (p : Int) := by unfold numR; rw [hnum]
  simp only [hv, hs] at hnw
  have HWS := Lib.hid hws
  have HNW := Lib.hid hnw
  have HB1 := Lib.hid B1
  have HP1 := Lib.hid P1
  have HSX := Lib.hid hs
  have HNN := Lib.hid hN
  have hN2 : 1 ≤ N := by omega
  clear hws hnw B1 P1 hs hs0 hv hw hN
  have hN1 : 1 < N := by have := HNN.out; rw [hl, List.length_cons] at this; omega
  have hcl := fun (W : World) (q : Value) (h : StrAt W q l) => call_r W q y t (by rw [← hl]; exact h) ht
  rw [hC] at hcl
  have HCL := Lib.hid hcl
  clear hcl hl
  go_enter Tryz.func16, Tryz.ntmps16
  go_wp2_with (first
    | (go_at_call 29; refine (HWS.out).mono ?_; rintro e w2 ⟨v, rfl, hq0, B⟩; have hq : StrAt w2 v (x :: l) := hq0; clear hq0; have hh := StrAt.headN hq HNN.out; obtain ⟨g, off, c, a', n', c', rfl, hc, hg, hN0, hq', hsl⟩ := hh; rw [HSX.out] at hc; have P := HP1.out.below B HP1.out.lt; have BB := HB1.out.trans (B.mono (by simp)); have kl2 := P.lt; have kr2 := P.rowOf; have kp2 := P.plain; have HQ := Lib.hid hq; have HQ1 := Lib.hid hq'; have HP2 := Lib.hid P; have HB2 := Lib.hid BB; clear P BB B hq hq')
    | (go_at_call 30; refine (HNW.out _).mono ?_; rintro e w3 ⟨rfl, rfl⟩)
    | (go_at_call 31; refine ((HCL.out _ _ HQ1.out)).mono ?_; unfold RcPost Cl.arr; rintro e w3 ⟨⟨d, rfl, hd⟩, B⟩; have HD := Lib.hid hd; clear hd; have P := HP2.out.below B HP2.out.lt; have BB := HB2.out.trans (B.mono HB2.out.size); have kl3 := P.lt; have kr3 := P.rowOf; have kp3 := P.plain; have hc3 : w3.cell? ⟨g, off, none⟩ = some (.string s) := (B.cell (p := ⟨g, off, none⟩) hg).trans hc; have hg3 : g < w3.heap.size := Nat.lt_of_lt_of_le hg B.size; have HP3 := Lib.hid P; have HB3 := Lib.hid BB; clear P BB B))
  refine bodyPost_ret (results_cellTmp rfl _ _ rfl (run_loadVar_blk _ _ _ 29 29 (Itm.arr { i0 with kind := 1, who := (p : Int), call := d }) _ 14 ((HP3.out.new2 _).row_ _) Tryz.underlying29 rfl (by kernel_rfl) (by simp [Itm.arr]))) rfl ?_
  exact ⟨⟨{ i0 with kind := 1, who := (p : Int), call := d }, by rw [Option.isSome_map]; rfl, fun e he => by cases o with | none => cases he | some c => (cases he; rw [HD.out c rfl])⟩, Below.setRow (HB3.out.alloc (Nat.le_of_lt HP3.out.lt) _) (Nat.le_refl _) _⟩

set_option maxRecDepth 100000 in
set_option maxHeartbeats 4000000 in
theorem rr_bad (w : World) (ln : Wd) (hln : ln.length < 4294967281) (x : Wd) (l : List Wd) (N : Nat) (hN : l.length + 1 = N) (hw : wordsL ln = x :: l) (hll : l.length < 4294967296) (hnum : numL x = none) (hM : numsR l = none) :
    Calls Tryz.prog 16 #[.string (bs ln)] w fun e w' => RiPost none e ∧ Below w.heap.size w w' := by
  have B1 : Below w.heap.size w (w.alloc (.cells #[.int .i64 0, .int .i64 0, .int .i64 0, .int .i64 0, .int .i64 0, .int .i64 0, .int .i64 0, .int .i64 0, .int .i64 0, .int .i64 0, .int .i64 0, .int .i64 0, .int .i64 0, .int .i64 0] 29)) := (Below.refl _ _).alloc (Nat.le_refl _) _
  have P1 : Blk (w.alloc (.cells #[.int .i64 0, .int .i64 0, .int .i64 0, .int .i64 0, .int .i64 0, .int .i64 0, .int .i64 0, .int .i64 0, .int .i64 0, .int .i64 0, .int .i64 0, .int .i64 0, .int .i64 0, .int .i64 0] 29)) w.heap.size 29 #[.int .i64 0, .int .i64 0, .int .i64 0, .int .i64 0, .int .i64 0, .int .i64 0, .int .i64 0, .int .i64 0, .int .i64 0, .int .i64 0, .int .i64 0, .int .i64 0, .int .i64 0, .int .i64 0] := Blk.new _ _ _
  have hws := words_r ln (w.alloc (.cells #[.int .i64 0, .int .i64 0, .int .i64 0, .int .i64 0, .int .i64 0, .int .i64 0, .int .i64 0, .int .i64 0, .int .i64 0, .int .i64 0, .int .i64 0, .int .i64 0, .int .i64 0, .int .i64 0] 29)) hln
  rw [hw] at hws
  obtain ⟨s0, hs0⟩ : ∃ s, bs ln = s := ⟨_, rfl⟩
  rw [hs0] at hws ⊢
  obtain ⟨s, hs⟩ : ∃ s, bs x = s := ⟨_, rfl⟩
  have htl : s.toList = x := by rw [← hs]; exact bs_toList x
  have hnw := fun (W : World) => number_r x W
  have hv : numR x = -1 := by unfold numR; rw [hnum]
  simp only [hv, hs] at hnw
  have HWS := Lib.hid hws
  have HNW := Lib.hid hnw
  have HB1 := Lib.hid B1
  have HP1 := Lib.hid P1
  have HSX := Lib.hid hs
  have HNN := Lib.hid hN
  have hN2 : 1 ≤ N := by omega
  clear hws hnw B1 P1 hs hs0 hv hw hN
  have hnn := fun (W : World) (q : Value) (h : StrAt W q l) => numbers_r W q l h hll
  rw [hM] at hnn
  unfold NumsPost at hnn
  simp only at hnn
  have HM := Lib.hid hnn
  clear hnn hM
  go_enter Tryz.func16, Tryz.ntmps16
  go_wp2_with (first
    | (go_at_call 29; refine (HWS.out).mono ?_; rintro e w2 ⟨v, rfl, hq0, B⟩; have hq : StrAt w2 v (x :: l) := hq0; clear hq0; have hh := StrAt.headN hq HNN.out; obtain ⟨g, off, c, a', n', c', rfl, hc, hg, hN0, hq', hsl⟩ := hh; rw [HSX.out] at hc; have P := HP1.out.below B HP1.out.lt; have BB := HB1.out.trans (B.mono (by simp)); have kl2 := P.lt; have kr2 := P.rowOf; have kp2 := P.plain; have HQ := Lib.hid hq; have HQ1 := Lib.hid hq'; have HP2 := Lib.hid P; have HB2 := Lib.hid BB; clear P BB B hq hq')
    | (go_at_call 30; refine (HNW.out _).mono ?_; rintro e w3 ⟨rfl, rfl⟩)
    | (go_at_call 32; refine (HM.out _ _ HQ1.out).mono ?_; rintro e w3 ⟨rfl, B⟩; have P := HP2.out.below B HP2.out.lt; have BB := HB2.out.trans (B.mono HB2.out.size); have kl3 := P.lt; have kr3 := P.rowOf; have kp3 := P.plain; have hc3 : w3.cell? ⟨g, off, none⟩ = some (.string s) := (B.cell (p := ⟨g, off, none⟩) hg).trans hc; have hg3 : g < w3.heap.size := Nat.lt_of_lt_of_le hg B.size; have HP3 := Lib.hid P; have HB3 := Lib.hid BB; clear P BB B))
  refine bodyPost_ret (results_cellTmp rfl _ _ rfl (run_loadVar_blk _ _ _ 29 29 (Itm.arr i0) _ 14 (HP3.out.row_ _) Tryz.underlying29 rfl (by kernel_rfl) (by simp [Itm.arr]))) rfl ?_
  exact ⟨⟨i0, rfl, fun _ h => by cases h⟩, Below.setRow HB3.out (Nat.le_refl _) _⟩

set_option maxRecDepth 100000 in
set_option maxHeartbeats 4000000 in
theorem rr_Core (w : World) (ln : Wd) (hln : ln.length < 4294967281) (x : Wd) (l : List Wd) (N : Nat) (hN : l.length + 1 = N) (hw : wordsL ln = x :: l) (hll : l.length < 4294967296) (hnum : numL x = none) (hx : x = kCore) (p : Nat) (hM : numsR l = some [p]) :
    Calls Tryz.prog 16 #[.string (bs ln)] w fun e w' => RiPost (some { i0 with kind := 2, who := (p : Int) }) e ∧ Below w.heap.size w w' := by
  have B1 : Below w.heap.size w (w.alloc (.cells #[.int .i64 0, .int .i64 0, .int .i64 0, .int .i64 0, .int .i64 0, .int .i64 0, .int .i64 0, .int .i64 0, .int .i64 0, .int .i64 0, .int .i64 0, .int .i64 0, .int .i64 0, .int .i64 0] 29)) := (Below.refl _ _).alloc (Nat.le_refl _) _
  have P1 : Blk (w.alloc (.cells #[.int .i64 0, .int .i64 0, .int .i64 0, .int .i64 0, .int .i64 0, .int .i64 0, .int .i64 0, .int .i64 0, .int .i64 0, .int .i64 0, .int .i64 0, .int .i64 0, .int .i64 0, .int .i64 0] 29)) w.heap.size 29 #[.int .i64 0, .int .i64 0, .int .i64 0, .int .i64 0, .int .i64 0, .int .i64 0, .int .i64 0, .int .i64 0, .int .i64 0, .int .i64 0, .int .i64 0, .int .i64 0, .int .i64 0, .int .i64 0] := Blk.new _ _ _
  have hws := words_r ln (w.alloc (.cells #[.int .i64 0, .int .i64 0, .int .i64 0, .int .i64 0, .int .i64 0, .int .i64 0, .int .i64 0, .int .i64 0, .int .i64 0, .int .i64 0, .int .i64 0, .int .i64 0, .int .i64 0, .int .i64 0] 29)) hln
  rw [hw] at hws
  obtain ⟨s0, hs0⟩ : ∃ s, bs ln = s := ⟨_, rfl⟩
  rw [hs0] at hws ⊢
  obtain ⟨s, hs⟩ : ∃ s, bs x = s := ⟨_, rfl⟩
  have htl : s.toList = x := by rw [← hs]; exact bs_toList x
  have hnw := fun (W : World) => number_r x W
  have hv : numR x = -1 := by unfold numR; rw [hnum]
  simp only [hv, hs] at hnw
  have HWS := Lib.hid hws
  have HNW := Lib.hid hnw
  have HB1 := Lib.hid B1
  have HP1 := Lib.hid P1
  have HSX := Lib.hid hs
  have HNN := Lib.hid hN
  have hN2 : 1 ≤ N := by omega
  clear hws hnw B1 P1 hs hs0 hv hw hN
  have hnn := fun (W : World) (q : Value) (h : StrAt W q l) => numbers_r W q l h hll
  rw [hM] at hnn
  unfold NumsPost at hnn
  simp only at hnn
  have HM := Lib.hid hnn
  clear hnn hM
  rw [hx] at htl
  clear hx
  go_enter Tryz.func16, Tryz.ntmps16
  go_wp2_with (first
    | (go_at_call 29; refine (HWS.out).mono ?_; rintro e w2 ⟨v, rfl, hq0, B⟩; have hq : StrAt w2 v (x :: l) := hq0; clear hq0; have hh := StrAt.headN hq HNN.out; obtain ⟨g, off, c, a', n', c', rfl, hc, hg, hN0, hq', hsl⟩ := hh; rw [HSX.out] at hc; have P := HP1.out.below B HP1.out.lt; have BB := HB1.out.trans (B.mono (by simp)); have kl2 := P.lt; have kr2 := P.rowOf; have kp2 := P.plain; have HQ := Lib.hid hq; have HQ1 := Lib.hid hq'; have HP2 := Lib.hid P; have HB2 := Lib.hid BB; clear P BB B hq hq')
    | (go_at_call 30; refine (HNW.out _).mono ?_; rintro e w3 ⟨rfl, rfl⟩)
    | (go_at_call 32; refine (HM.out _ _ HQ1.out).mono ?_; rintro e w3 ⟨⟨v, rfl, O⟩, B⟩; obtain ⟨u, cu, rfl, k0, hbu, hu, hcu⟩ := own_one O; clear O; have P := HP2.out.below B HP2.out.lt; have BB := HB2.out.trans (B.mono HB2.out.size); have kl3 := P.lt; have kr3 := P.rowOf; have kp3 := P.plain; have hc3 : w3.cell? ⟨g, off, none⟩ = some (.string s) := (B.cell (p := ⟨g, off, none⟩) hg).trans hc; have hg3 : g < w3.heap.size := Nat.lt_of_lt_of_le hg B.size; have HP3 := Lib.hid P; have HB3 := Lib.hid BB; clear P BB B))
  refine bodyPost_ret (results_cellTmp rfl _ _ rfl (run_loadVar_blk _ _ _ 29 29 (Itm.arr { i0 with kind := 2, who := (p : Int) }) _ 14 (HP3.out.row_ _) Tryz.underlying29 rfl (by kernel_rfl) (by simp [Itm.arr]))) rfl ?_
  exact ⟨⟨{ i0 with kind := 2, who := (p : Int) }, rfl, fun _ h => by cases h; rfl⟩, Below.setRow HB3.out (Nat.le_refl _) _⟩

set_option maxRecDepth 100000 in
set_option maxHeartbeats 4000000 in
theorem rr_Daemon (w : World) (ln : Wd) (hln : ln.length < 4294967281) (x : Wd) (l : List Wd) (N : Nat) (hN : l.length + 1 = N) (hw : wordsL ln = x :: l) (hll : l.length < 4294967296) (hnum : numL x = none) (hx : x = kDaemon) (p : Nat) (hM : numsR l = some [p]) :
    Calls Tryz.prog 16 #[.string (bs ln)] w fun e w' => RiPost (some { i0 with kind := 4, who := (p : Int) }) e ∧ Below w.heap.size w w' := by
  have B1 : Below w.heap.size w (w.alloc (.cells #[.int .i64 0, .int .i64 0, .int .i64 0, .int .i64 0, .int .i64 0, .int .i64 0, .int .i64 0, .int .i64 0, .int .i64 0, .int .i64 0, .int .i64 0, .int .i64 0, .int .i64 0, .int .i64 0] 29)) := (Below.refl _ _).alloc (Nat.le_refl _) _
  have P1 : Blk (w.alloc (.cells #[.int .i64 0, .int .i64 0, .int .i64 0, .int .i64 0, .int .i64 0, .int .i64 0, .int .i64 0, .int .i64 0, .int .i64 0, .int .i64 0, .int .i64 0, .int .i64 0, .int .i64 0, .int .i64 0] 29)) w.heap.size 29 #[.int .i64 0, .int .i64 0, .int .i64 0, .int .i64 0, .int .i64 0, .int .i64 0, .int .i64 0, .int .i64 0, .int .i64 0, .int .i64 0, .int .i64 0, .int .i64 0, .int .i64 0, .int .i64 0] := Blk.new _ _ _
  have hws := words_r ln (w.alloc (.cells #[.int .i64 0, .int .i64 0, .int .i64 0, .int .i64 0, .int .i64 0, .int .i64 0, .int .i64 0, .int .i64 0, .int .i64 0, .int .i64 0, .int .i64 0, .int .i64 0, .int .i64 0, .int .i64 0] 29)) hln
  rw [hw] at hws
  obtain ⟨s0, hs0⟩ : ∃ s, bs ln = s := ⟨_, rfl⟩
  rw [hs0] at hws ⊢
  obtain ⟨s, hs⟩ : ∃ s, bs x = s := ⟨_, rfl⟩
  have htl : s.toList = x := by rw [← hs]; exact bs_toList x
  have hnw := fun (W : World) => number_r x W
  have hv : numR x = -1 := by unfold numR; rw [hnum]
  simp only [hv, hs] at hnw
  have HWS := Lib.hid hws
  have HNW := Lib.hid hnw
  have HB1 := Lib.hid B1
  have HP1 := Lib.hid P1
  have HSX := Lib.hid hs
  have HNN := Lib.hid hN
  have hN2 : 1 ≤ N := by omega
  clear hws hnw B1 P1 hs hs0 hv hw hN
  have hnn := fun (W : World) (q : Value) (h : StrAt W q l) => numbers_r W q l h hll
  rw [hM] at hnn
  unfold NumsPost at hnn
  simp only at hnn
  have HM := Lib.hid hnn
  clear hnn hM
  rw [hx] at htl
  clear hx
  go_enter Tryz.func16, Tryz.ntmps16
  go_wp2_with (first
    | (go_at_call 29; refine (HWS.out).mono ?_; rintro e w2 ⟨v, rfl, hq0, B⟩; have hq : StrAt w2 v (x :: l) := hq0; clear hq0; have hh := StrAt.headN hq HNN.out; obtain ⟨g, off, c, a', n', c', rfl, hc, hg, hN0, hq', hsl⟩ := hh; rw [HSX.out] at hc; have P := HP1.out.below B HP1.out.lt; have BB := HB1.out.trans (B.mono (by simp)); have kl2 := P.lt; have kr2 := P.rowOf; have kp2 := P.plain; have HQ := Lib.hid hq; have HQ1 := Lib.hid hq'; have HP2 := Lib.hid P; have HB2 := Lib.hid BB; clear P BB B hq hq')
    | (go_at_call 30; refine (HNW.out _).mono ?_; rintro e w3 ⟨rfl, rfl⟩)
    | (go_at_call 32; refine (HM.out _ _ HQ1.out).mono ?_; rintro e w3 ⟨⟨v, rfl, O⟩, B⟩; obtain ⟨u, cu, rfl, k0, hbu, hu, hcu⟩ := own_one O; clear O; have P := HP2.out.below B HP2.out.lt; have BB := HB2.out.trans (B.mono HB2.out.size); have kl3 := P.lt; have kr3 := P.rowOf; have kp3 := P.plain; have hc3 : w3.cell? ⟨g, off, none⟩ = some (.string s) := (B.cell (p := ⟨g, off, none⟩) hg).trans hc; have hg3 : g < w3.heap.size := Nat.lt_of_lt_of_le hg B.size; have HP3 := Lib.hid P; have HB3 := Lib.hid BB; clear P BB B))
  refine bodyPost_ret (results_cellTmp rfl _ _ rfl (run_loadVar_blk _ _ _ 29 29 (Itm.arr { i0 with kind := 4, who := (p : Int) }) _ 14 (HP3.out.row_ _) Tryz.underlying29 rfl (by kernel_rfl) (by simp [Itm.arr]))) rfl ?_
  exact ⟨⟨{ i0 with kind := 4, who := (p : Int) }, rfl, fun _ h => by cases h; rfl⟩, Below.setRow HB3.out (Nat.le_refl _) _⟩

set_option maxRecDepth 100000 in
set_option maxHeartbeats 4000000 in
theorem rr_Rounds (w : World) (ln : Wd) (hln : ln.length < 4294967281) (x : Wd) (l : List Wd) (N : Nat) (hN : l.length + 1 = N) (hw : wordsL ln = x :: l) (hll : l.length < 4294967296) (hnum : numL x = none) (hx : x = kRounds) (p : Nat) (hM : numsR l = some [p]) :
    Calls Tryz.prog 16 #[.string (bs ln)] w fun e w' => RiPost (some { i0 with kind := 6, n := (p : Int) }) e ∧ Below w.heap.size w w' := by
  have B1 : Below w.heap.size w (w.alloc (.cells #[.int .i64 0, .int .i64 0, .int .i64 0, .int .i64 0, .int .i64 0, .int .i64 0, .int .i64 0, .int .i64 0, .int .i64 0, .int .i64 0, .int .i64 0, .int .i64 0, .int .i64 0, .int .i64 0] 29)) := (Below.refl _ _).alloc (Nat.le_refl _) _
  have P1 : Blk (w.alloc (.cells #[.int .i64 0, .int .i64 0, .int .i64 0, .int .i64 0, .int .i64 0, .int .i64 0, .int .i64 0, .int .i64 0, .int .i64 0, .int .i64 0, .int .i64 0, .int .i64 0, .int .i64 0, .int .i64 0] 29)) w.heap.size 29 #[.int .i64 0, .int .i64 0, .int .i64 0, .int .i64 0, .int .i64 0, .int .i64 0, .int .i64 0, .int .i64 0, .int .i64 0, .int .i64 0, .int .i64 0, .int .i64 0, .int .i64 0, .int .i64 0] := Blk.new _ _ _
  have hws := words_r ln (w.alloc (.cells #[.int .i64 0, .int .i64 0, .int .i64 0, .int .i64 0, .int .i64 0, .int .i64 0, .int .i64 0, .int .i64 0, .int .i64 0, .int .i64 0, .int .i64 0, .int .i64 0, .int .i64 0, .int .i64 0] 29)) hln
  rw [hw] at hws
  obtain ⟨s0, hs0⟩ : ∃ s, bs ln = s := ⟨_, rfl⟩
  rw [hs0] at hws ⊢
  obtain ⟨s, hs⟩ : ∃ s, bs x = s := ⟨_, rfl⟩
  have htl : s.toList = x := by rw [← hs]; exact bs_toList x
  have hnw := fun (W : World) => number_r x W
  have hv : numR x = -1 := by unfold numR; rw [hnum]
  simp only [hv, hs] at hnw
  have HWS := Lib.hid hws
  have HNW := Lib.hid hnw
  have HB1 := Lib.hid B1
  have HP1 := Lib.hid P1
  have HSX := Lib.hid hs
  have HNN := Lib.hid hN
  have hN2 : 1 ≤ N := by omega
  clear hws hnw B1 P1 hs hs0 hv hw hN
  have hnn := fun (W : World) (q : Value) (h : StrAt W q l) => numbers_r W q l h hll
  rw [hM] at hnn
  unfold NumsPost at hnn
  simp only at hnn
  have HM := Lib.hid hnn
  clear hnn hM
  rw [hx] at htl
  clear hx
  go_enter Tryz.func16, Tryz.ntmps16
  go_wp2_with (first
    | (go_at_call 29; refine (HWS.out).mono ?_; rintro e w2 ⟨v, rfl, hq0, B⟩; have hq : StrAt w2 v (x :: l) := hq0; clear hq0; have hh := StrAt.headN hq HNN.out; obtain ⟨g, off, c, a', n', c', rfl, hc, hg, hN0, hq', hsl⟩ := hh; rw [HSX.out] at hc; have P := HP1.out.below B HP1.out.lt; have BB := HB1.out.trans (B.mono (by simp)); have kl2 := P.lt; have kr2 := P.rowOf; have kp2 := P.plain; have HQ := Lib.hid hq; have HQ1 := Lib.hid hq'; have HP2 := Lib.hid P; have HB2 := Lib.hid BB; clear P BB B hq hq')
    | (go_at_call 30; refine (HNW.out _).mono ?_; rintro e w3 ⟨rfl, rfl⟩)
    | (go_at_call 32; refine (HM.out _ _ HQ1.out).mono ?_; rintro e w3 ⟨⟨v, rfl, O⟩, B⟩; obtain ⟨u, cu, rfl, k0, hbu, hu, hcu⟩ := own_one O; clear O; have P := HP2.out.below B HP2.out.lt; have BB := HB2.out.trans (B.mono HB2.out.size); have kl3 := P.lt; have kr3 := P.rowOf; have kp3 := P.plain; have hc3 : w3.cell? ⟨g, off, none⟩ = some (.string s) := (B.cell (p := ⟨g, off, none⟩) hg).trans hc; have hg3 : g < w3.heap.size := Nat.lt_of_lt_of_le hg B.size; have HP3 := Lib.hid P; have HB3 := Lib.hid BB; clear P BB B))
  refine bodyPost_ret (results_cellTmp rfl _ _ rfl (run_loadVar_blk _ _ _ 29 29 (Itm.arr { i0 with kind := 6, n := (p : Int) }) _ 14 (HP3.out.row_ _) Tryz.underlying29 rfl (by kernel_rfl) (by simp [Itm.arr]))) rfl ?_
  exact ⟨⟨{ i0 with kind := 6, n := (p : Int) }, rfl, fun _ h => by cases h; rfl⟩, Below.setRow HB3.out (Nat.le_refl _) _⟩

set_option maxRecDepth 100000 in
set_option maxHeartbeats 4000000 in
theorem rr_Evict (w : World) (ln : Wd) (hln : ln.length < 4294967281) (x : Wd) (l : List Wd) (N : Nat) (hN : l.length + 1 = N) (hw : wordsL ln = x :: l) (hll : l.length < 4294967296) (hnum : numL x = none) (hx : x = kEvict) (p q : Nat) (hM : numsR l = some [p, q]) :
    Calls Tryz.prog 16 #[.string (bs ln)] w fun e w' => RiPost (some { i0 with kind := 5, who := (p : Int), n := (q : Int) }) e ∧ Below w.heap.size w w' := by
  have B1 : Below w.heap.size w (w.alloc (.cells #[.int .i64 0, .int .i64 0, .int .i64 0, .int .i64 0, .int .i64 0, .int .i64 0, .int .i64 0, .int .i64 0, .int .i64 0, .int .i64 0, .int .i64 0, .int .i64 0, .int .i64 0, .int .i64 0] 29)) := (Below.refl _ _).alloc (Nat.le_refl _) _
  have P1 : Blk (w.alloc (.cells #[.int .i64 0, .int .i64 0, .int .i64 0, .int .i64 0, .int .i64 0, .int .i64 0, .int .i64 0, .int .i64 0, .int .i64 0, .int .i64 0, .int .i64 0, .int .i64 0, .int .i64 0, .int .i64 0] 29)) w.heap.size 29 #[.int .i64 0, .int .i64 0, .int .i64 0, .int .i64 0, .int .i64 0, .int .i64 0, .int .i64 0, .int .i64 0, .int .i64 0, .int .i64 0, .int .i64 0, .int .i64 0, .int .i64 0, .int .i64 0] := Blk.new _ _ _
  have hws := words_r ln (w.alloc (.cells #[.int .i64 0, .int .i64 0, .int .i64 0, .int .i64 0, .int .i64 0, .int .i64 0, .int .i64 0, .int .i64 0, .int .i64 0, .int .i64 0, .int .i64 0, .int .i64 0, .int .i64 0, .int .i64 0] 29)) hln
  rw [hw] at hws
  obtain ⟨s0, hs0⟩ : ∃ s, bs ln = s := ⟨_, rfl⟩
  rw [hs0] at hws ⊢
  obtain ⟨s, hs⟩ : ∃ s, bs x = s := ⟨_, rfl⟩
  have htl : s.toList = x := by rw [← hs]; exact bs_toList x
  have hnw := fun (W : World) => number_r x W
  have hv : numR x = -1 := by unfold numR; rw [hnum]
  simp only [hv, hs] at hnw
  have HWS := Lib.hid hws
  have HNW := Lib.hid hnw
  have HB1 := Lib.hid B1
  have HP1 := Lib.hid P1
  have HSX := Lib.hid hs
  have HNN := Lib.hid hN
  have hN2 : 1 ≤ N := by omega
  clear hws hnw B1 P1 hs hs0 hv hw hN
  have hnn := fun (W : World) (q : Value) (h : StrAt W q l) => numbers_r W q l h hll
  rw [hM] at hnn
  unfold NumsPost at hnn
  simp only at hnn
  have HM := Lib.hid hnn
  clear hnn hM
  rw [hx] at htl
  clear hx
  go_enter Tryz.func16, Tryz.ntmps16
  go_wp2_with (first
    | (go_at_call 29; refine (HWS.out).mono ?_; rintro e w2 ⟨v, rfl, hq0, B⟩; have hq : StrAt w2 v (x :: l) := hq0; clear hq0; have hh := StrAt.headN hq HNN.out; obtain ⟨g, off, c, a', n', c', rfl, hc, hg, hN0, hq', hsl⟩ := hh; rw [HSX.out] at hc; have P := HP1.out.below B HP1.out.lt; have BB := HB1.out.trans (B.mono (by simp)); have kl2 := P.lt; have kr2 := P.rowOf; have kp2 := P.plain; have HQ := Lib.hid hq; have HQ1 := Lib.hid hq'; have HP2 := Lib.hid P; have HB2 := Lib.hid BB; clear P BB B hq hq')
    | (go_at_call 30; refine (HNW.out _).mono ?_; rintro e w3 ⟨rfl, rfl⟩)
    | (go_at_call 32; refine (HM.out _ _ HQ1.out).mono ?_; rintro e w3 ⟨⟨v, rfl, O⟩, B⟩; obtain ⟨u, cu, rfl, k0, k1, hbu, hu, hcu⟩ := own_two O; clear O; have P := HP2.out.below B HP2.out.lt; have BB := HB2.out.trans (B.mono HB2.out.size); have kl3 := P.lt; have kr3 := P.rowOf; have kp3 := P.plain; have hc3 : w3.cell? ⟨g, off, none⟩ = some (.string s) := (B.cell (p := ⟨g, off, none⟩) hg).trans hc; have hg3 : g < w3.heap.size := Nat.lt_of_lt_of_le hg B.size; have HP3 := Lib.hid P; have HB3 := Lib.hid BB; clear P BB B)
    | (refine wp_region_stG 7 (by kernel_rfl) (by kernel_rfl) ?_; simp only [List.take_succ_cons, List.take_zero, List.drop_succ_cons, List.drop_zero]; (repeat (first | (refine StG.skip rfl rfl ?_) | (refine StG.skipU rfl (by simp only [Act.put, List.setIfInBounds_toArray, List.set_cons_zero, List.set_cons_succ]; rfl) ?_) | (refine StG.want rfl (fun K hK => ?_); go_simp; (try go_bits); refine hK _ ?_; clear hK K))); refine StG.nil ?_))
  refine bodyPost_ret (results_cellTmp rfl _ _ rfl (run_loadVar_blk _ _ _ 29 29 (Itm.arr { i0 with kind := 5, who := (p : Int), n := (q : Int) }) _ 14 (HP3.out.row_ _) Tryz.underlying29 rfl (by kernel_rfl) (by simp [Itm.arr]))) rfl ?_
  exact ⟨⟨{ i0 with kind := 5, who := (p : Int), n := (q : Int) }, rfl, fun _ h => by cases h; rfl⟩, Below.setRow HB3.out.drew (Nat.le_refl _) _⟩

set_option maxRecDepth 100000 in
set_option maxHeartbeats 4000000 in
theorem rr_xCore (w : World) (ln : Wd) (hln : ln.length < 4294967281) (x : Wd) (l : List Wd) (N : Nat) (hN : l.length + 1 = N) (hw : wordsL ln = x :: l) (hll : l.length < 4294967296) (hnum : numL x = none) (ns : List Nat) (M : Nat) (hMl : ns.length = M) (hM : numsR l = some ns) (hx : x = kCore) (hm : M ≠ 1) :
    Calls Tryz.prog 16 #[.string (bs ln)] w fun e w' => RiPost (jobRr x ns) e ∧ Below w.heap.size w w' := by
  have B1 : Below w.heap.size w (w.alloc (.cells #[.int .i64 0, .int .i64 0, .int .i64 0, .int .i64 0, .int .i64 0, .int .i64 0, .int .i64 0, .int .i64 0, .int .i64 0, .int .i64 0, .int .i64 0, .int .i64 0, .int .i64 0, .int .i64 0] 29)) := (Below.refl _ _).alloc (Nat.le_refl _) _
  have P1 : Blk (w.alloc (.cells #[.int .i64 0, .int .i64 0, .int .i64 0, .int .i64 0, .int .i64 0, .int .i64 0, .int .i64 0, .int .i64 0, .int .i64 0, .int .i64 0, .int .i64 0, .int .i64 0, .int .i64 0, .int .i64 0] 29)) w.heap.size 29 #[.int .i64 0, .int .i64 0, .int .i64 0, .int .i64 0, .int .i64 0, .int .i64 0, .int .i64 0, .int .i64 0, .int .i64 0, .int .i64 0, .int .i64 0, .int .i64 0, .int .i64 0, .int .i64 0] := Blk.new _ _ _
  have hws := words_r ln (w.alloc (.cells #[.int .i64 0, .int .i64 0, .int .i64 0, .int .i64 0, .int .i64 0, .int .i64 0, .int .i64 0, .int .i64 0, .int .i64 0, .int .i64 0, .int .i64 0, .int .i64 0, .int .i64 0, .int .i64 0] 29)) hln
  rw [hw] at hws
  obtain ⟨s0, hs0⟩ : ∃ s, bs ln = s := ⟨_, rfl⟩
  rw [hs0] at hws ⊢
  obtain ⟨s, hs⟩ : ∃ s, bs x = s := ⟨_, rfl⟩
  have htl : s.toList = x := by rw [← hs]; exact bs_toList x
  have hnw := fun (W : World) => number_r x W
  have hv : numR x = -1 := by unfold numR; rw [hnum]
  simp only [hv, hs] at hnw
  have HWS := Lib.hid hws
  have HNW := Lib.hid hnw
  have HB1 := Lib.hid B1
  have HP1 := Lib.hid P1
  have HSX := Lib.hid hs
  have HNN := Lib.hid hN
  have hN2 : 1 ≤ N := by omega
  clear hws hnw B1 P1 hs hs0 hv hw hN
  have hnn := fun (W : World) (q : Value) (h : StrAt W q l) => numbers_r W q l h hll
  rw [hM] at hnn
  unfold NumsPost at hnn
  simp only at hnn
  rw [hMl] at hnn
  have HM := Lib.hid hnn
  clear hnn hM
  have hjb := fun (W : World) (q v : Value) (base : Nat) (h : StrAt W q (x :: l)) (hv : W.ownsRow base 3 1 v M (nums ns)) => job_r W q v x l base ns h (by rw [hMl]; exact hv)
  unfold RiPost Itm.arr at hjb
  have HJB := Lib.hid hjb
  obtain ⟨o, ho⟩ : ∃ o, jobRr x ns = o := ⟨_, rfl⟩
  rw [ho] at HJB ⊢
  clear hjb hMl ho
  have hm1 : ((M : Int) == 1) = false := by rw [beq_eq_false_iff_ne]; omega
  rw [hx] at htl
  clear hx
  go_enter Tryz.func16, Tryz.ntmps16
  go_wp2_with (first
    | (go_at_call 29; refine (HWS.out).mono ?_; rintro e w2 ⟨v, rfl, hq0, B⟩; have hq : StrAt w2 v (x :: l) := hq0; clear hq0; have hh := StrAt.headN hq HNN.out; obtain ⟨g, off, c, a', n', c', rfl, hc, hg, hN0, hq', hsl⟩ := hh; rw [HSX.out] at hc; have P := HP1.out.below B HP1.out.lt; have BB := HB1.out.trans (B.mono (by simp)); have kl2 := P.lt; have kr2 := P.rowOf; have kp2 := P.plain; have HQ := Lib.hid hq; have HQ1 := Lib.hid hq'; have HP2 := Lib.hid P; have HB2 := Lib.hid BB; clear P BB B hq hq')
    | (go_at_call 30; refine (HNW.out _).mono ?_; rintro e w3 ⟨rfl, rfl⟩)
    | (go_at_call 32; refine (HM.out _ _ HQ1.out).mono ?_; rintro e w3 ⟨⟨v, rfl, O⟩, B⟩; have hvf : ∃ a1 c1, v = .slice a1 M c1 := own_form O; obtain ⟨a1, c1, rfl⟩ := hvf; have HO := Lib.hid O; clear O; have HQ3 := Lib.hid (HQ.out.below B); have P := HP2.out.below B HP2.out.lt; have BB := HB2.out.trans (B.mono HB2.out.size); have kl3 := P.lt; have kr3 := P.rowOf; have kp3 := P.plain; have hc3 : w3.cell? ⟨g, off, none⟩ = some (.string s) := (B.cell (p := ⟨g, off, none⟩) hg).trans hc; have hg3 : g < w3.heap.size := Nat.lt_of_lt_of_le hg B.size; have HP3 := Lib.hid P; have HB3 := Lib.hid BB; clear P BB B)
    | (go_at_call 33; refine (HJB.out _ _ _ _ HQ3.out HO.out).mono ?_; rintro e w4 ⟨⟨d, rfl, hd⟩, B⟩; have HD := Lib.hid hd; clear hd; have P := HP3.out.below B HP3.out.lt; have BB := HB3.out.trans (B.mono HB3.out.size); have kl4 := P.lt; have kr4 := P.rowOf; have kp4 := P.plain; have hc4 : w4.cell? ⟨g, off, none⟩ = some (.string s) := (B.cell (p := ⟨g, off, none⟩) hg3).trans hc3; have hg4 : g < w4.heap.size := Nat.lt_of_lt_of_le hg3 B.size; have HP4 := Lib.hid P; have HB4 := Lib.hid BB; clear P BB B))
  refine bodyPost_ret (results_cellTmp rfl _ _ rfl (run_loadVar_blk _ _ _ 29 29 (Itm.arr d) _ 14 (HP4.out.row_ _) Tryz.underlying29 rfl (by kernel_rfl) (by simp [Itm.arr]))) rfl ?_
  exact ⟨⟨d, rfl, fun e he => HD.out e he⟩, Below.setRow HB4.out (Nat.le_refl _) _⟩

set_option maxRecDepth 100000 in
set_option maxHeartbeats 4000000 in
theorem rr_xDaemon (w : World) (ln : Wd) (hln : ln.length < 4294967281) (x : Wd) (l : List Wd) (N : Nat) (hN : l.length + 1 = N) (hw : wordsL ln = x :: l) (hll : l.length < 4294967296) (hnum : numL x = none) (ns : List Nat) (M : Nat) (hMl : ns.length = M) (hM : numsR l = some ns) (hx : x = kDaemon) (hm : M ≠ 1) :
    Calls Tryz.prog 16 #[.string (bs ln)] w fun e w' => RiPost (jobRr x ns) e ∧ Below w.heap.size w w' := by
  have B1 : Below w.heap.size w (w.alloc (.cells #[.int .i64 0, .int .i64 0, .int .i64 0, .int .i64 0, .int .i64 0, .int .i64 0, .int .i64 0, .int .i64 0, .int .i64 0, .int .i64 0, .int .i64 0, .int .i64 0, .int .i64 0, .int .i64 0] 29)) := (Below.refl _ _).alloc (Nat.le_refl _) _
  have P1 : Blk (w.alloc (.cells #[.int .i64 0, .int .i64 0, .int .i64 0, .int .i64 0, .int .i64 0, .int .i64 0, .int .i64 0, .int .i64 0, .int .i64 0, .int .i64 0, .int .i64 0, .int .i64 0, .int .i64 0, .int .i64 0] 29)) w.heap.size 29 #[.int .i64 0, .int .i64 0, .int .i64 0, .int .i64 0, .int .i64 0, .int .i64 0, .int .i64 0, .int .i64 0, .int .i64 0, .int .i64 0, .int .i64 0, .int .i64 0, .int .i64 0, .int .i64 0] := Blk.new _ _ _
  have hws := words_r ln (w.alloc (.cells #[.int .i64 0, .int .i64 0, .int .i64 0, .int .i64 0, .int .i64 0, .int .i64 0, .int .i64 0, .int .i64 0, .int .i64 0, .int .i64 0, .int .i64 0, .int .i64 0, .int .i64 0, .int .i64 0] 29)) hln
  rw [hw] at hws
  obtain ⟨s0, hs0⟩ : ∃ s, bs ln = s := ⟨_, rfl⟩
  rw [hs0] at hws ⊢
  obtain ⟨s, hs⟩ : ∃ s, bs x = s := ⟨_, rfl⟩
  have htl : s.toList = x := by rw [← hs]; exact bs_toList x
  have hnw := fun (W : World) => number_r x W
  have hv : numR x = -1 := by unfold numR; rw [hnum]
  simp only [hv, hs] at hnw
  have HWS := Lib.hid hws
  have HNW := Lib.hid hnw
  have HB1 := Lib.hid B1
  have HP1 := Lib.hid P1
  have HSX := Lib.hid hs
  have HNN := Lib.hid hN
  have hN2 : 1 ≤ N := by omega
  clear hws hnw B1 P1 hs hs0 hv hw hN
  have hnn := fun (W : World) (q : Value) (h : StrAt W q l) => numbers_r W q l h hll
  rw [hM] at hnn
  unfold NumsPost at hnn
  simp only at hnn
  rw [hMl] at hnn
  have HM := Lib.hid hnn
  clear hnn hM
  have hjb := fun (W : World) (q v : Value) (base : Nat) (h : StrAt W q (x :: l)) (hv : W.ownsRow base 3 1 v M (nums ns)) => job_r W q v x l base ns h (by rw [hMl]; exact hv)
  unfold RiPost Itm.arr at hjb
  have HJB := Lib.hid hjb
  obtain ⟨o, ho⟩ : ∃ o, jobRr x ns = o := ⟨_, rfl⟩
  rw [ho] at HJB ⊢
  clear hjb hMl ho
  have hm1 : ((M : Int) == 1) = false := by rw [beq_eq_false_iff_ne]; omega
  rw [hx] at htl
  clear hx
  go_enter Tryz.func16, Tryz.ntmps16
  go_wp2_with (first
    | (go_at_call 29; refine (HWS.out).mono ?_; rintro e w2 ⟨v, rfl, hq0, B⟩; have hq : StrAt w2 v (x :: l) := hq0; clear hq0; have hh := StrAt.headN hq HNN.out; obtain ⟨g, off, c, a', n', c', rfl, hc, hg, hN0, hq', hsl⟩ := hh; rw [HSX.out] at hc; have P := HP1.out.below B HP1.out.lt; have BB := HB1.out.trans (B.mono (by simp)); have kl2 := P.lt; have kr2 := P.rowOf; have kp2 := P.plain; have HQ := Lib.hid hq; have HQ1 := Lib.hid hq'; have HP2 := Lib.hid P; have HB2 := Lib.hid BB; clear P BB B hq hq')
    | (go_at_call 30; refine (HNW.out _).mono ?_; rintro e w3 ⟨rfl, rfl⟩)
    | (go_at_call 32; refine (HM.out _ _ HQ1.out).mono ?_; rintro e w3 ⟨⟨v, rfl, O⟩, B⟩; have hvf : ∃ a1 c1, v = .slice a1 M c1 := own_form O; obtain ⟨a1, c1, rfl⟩ := hvf; have HO := Lib.hid O; clear O; have HQ3 := Lib.hid (HQ.out.below B); have P := HP2.out.below B HP2.out.lt; have BB := HB2.out.trans (B.mono HB2.out.size); have kl3 := P.lt; have kr3 := P.rowOf; have kp3 := P.plain; have hc3 : w3.cell? ⟨g, off, none⟩ = some (.string s) := (B.cell (p := ⟨g, off, none⟩) hg).trans hc; have hg3 : g < w3.heap.size := Nat.lt_of_lt_of_le hg B.size; have HP3 := Lib.hid P; have HB3 := Lib.hid BB; clear P BB B)
    | (go_at_call 33; refine (HJB.out _ _ _ _ HQ3.out HO.out).mono ?_; rintro e w4 ⟨⟨d, rfl, hd⟩, B⟩; have HD := Lib.hid hd; clear hd; have P := HP3.out.below B HP3.out.lt; have BB := HB3.out.trans (B.mono HB3.out.size); have kl4 := P.lt; have kr4 := P.rowOf; have kp4 := P.plain; have hc4 : w4.cell? ⟨g, off, none⟩ = some (.string s) := (B.cell (p := ⟨g, off, none⟩) hg3).trans hc3; have hg4 : g < w4.heap.size := Nat.lt_of_lt_of_le hg3 B.size; have HP4 := Lib.hid P; have HB4 := Lib.hid BB; clear P BB B))
  refine bodyPost_ret (results_cellTmp rfl _ _ rfl (run_loadVar_blk _ _ _ 29 29 (Itm.arr d) _ 14 (HP4.out.row_ _) Tryz.underlying29 rfl (by kernel_rfl) (by simp [Itm.arr]))) rfl ?_
  exact ⟨⟨d, rfl, fun e he => HD.out e he⟩, Below.setRow HB4.out (Nat.le_refl _) _⟩

set_option maxRecDepth 100000 in
set_option maxHeartbeats 4000000 in
theorem rr_xEvict (w : World) (ln : Wd) (hln : ln.length < 4294967281) (x : Wd) (l : List Wd) (N : Nat) (hN : l.length + 1 = N) (hw : wordsL ln = x :: l) (hll : l.length < 4294967296) (hnum : numL x = none) (ns : List Nat) (M : Nat) (hMl : ns.length = M) (hM : numsR l = some ns) (hx : x = kEvict) (hm : M ≠ 2) :
    Calls Tryz.prog 16 #[.string (bs ln)] w fun e w' => RiPost (jobRr x ns) e ∧ Below w.heap.size w w' := by
  have B1 : Below w.heap.size w (w.alloc (.cells #[.int .i64 0, .int .i64 0, .int .i64 0, .int .i64 0, .int .i64 0, .int .i64 0, .int .i64 0, .int .i64 0, .int .i64 0, .int .i64 0, .int .i64 0, .int .i64 0, .int .i64 0, .int .i64 0] 29)) := (Below.refl _ _).alloc (Nat.le_refl _) _
  have P1 : Blk (w.alloc (.cells #[.int .i64 0, .int .i64 0, .int .i64 0, .int .i64 0, .int .i64 0, .int .i64 0, .int .i64 0, .int .i64 0, .int .i64 0, .int .i64 0, .int .i64 0, .int .i64 0, .int .i64 0, .int .i64 0] 29)) w.heap.size 29 #[.int .i64 0, .int .i64 0, .int .i64 0, .int .i64 0, .int .i64 0, .int .i64 0, .int .i64 0, .int .i64 0, .int .i64 0, .int .i64 0, .int .i64 0, .int .i64 0, .int .i64 0, .int .i64 0] := Blk.new _ _ _
  have hws := words_r ln (w.alloc (.cells #[.int .i64 0, .int .i64 0, .int .i64 0, .int .i64 0, .int .i64 0, .int .i64 0, .int .i64 0, .int .i64 0, .int .i64 0, .int .i64 0, .int .i64 0, .int .i64 0, .int .i64 0, .int .i64 0] 29)) hln
  rw [hw] at hws
  obtain ⟨s0, hs0⟩ : ∃ s, bs ln = s := ⟨_, rfl⟩
  rw [hs0] at hws ⊢
  obtain ⟨s, hs⟩ : ∃ s, bs x = s := ⟨_, rfl⟩
  have htl : s.toList = x := by rw [← hs]; exact bs_toList x
  have hnw := fun (W : World) => number_r x W
  have hv : numR x = -1 := by unfold numR; rw [hnum]
  simp only [hv, hs] at hnw
  have HWS := Lib.hid hws
  have HNW := Lib.hid hnw
  have HB1 := Lib.hid B1
  have HP1 := Lib.hid P1
  have HSX := Lib.hid hs
  have HNN := Lib.hid hN
  have hN2 : 1 ≤ N := by omega
  clear hws hnw B1 P1 hs hs0 hv hw hN
  have hnn := fun (W : World) (q : Value) (h : StrAt W q l) => numbers_r W q l h hll
  rw [hM] at hnn
  unfold NumsPost at hnn
  simp only at hnn
  rw [hMl] at hnn
  have HM := Lib.hid hnn
  clear hnn hM
  have hjb := fun (W : World) (q v : Value) (base : Nat) (h : StrAt W q (x :: l)) (hv : W.ownsRow base 3 1 v M (nums ns)) => job_r W q v x l base ns h (by rw [hMl]; exact hv)
  unfold RiPost Itm.arr at hjb
  have HJB := Lib.hid hjb
  obtain ⟨o, ho⟩ : ∃ o, jobRr x ns = o := ⟨_, rfl⟩
  rw [ho] at HJB ⊢
  clear hjb hMl ho
  have hm1 : ((M : Int) == 2) = false := by rw [beq_eq_false_iff_ne]; omega
  rw [hx] at htl
  clear hx
  go_enter Tryz.func16, Tryz.ntmps16
  go_wp2_with (first
    | (go_at_call 29; refine (HWS.out).mono ?_; rintro e w2 ⟨v, rfl, hq0, B⟩; have hq : StrAt w2 v (x :: l) := hq0; clear hq0; have hh := StrAt.headN hq HNN.out; obtain ⟨g, off, c, a', n', c', rfl, hc, hg, hN0, hq', hsl⟩ := hh; rw [HSX.out] at hc; have P := HP1.out.below B HP1.out.lt; have BB := HB1.out.trans (B.mono (by simp)); have kl2 := P.lt; have kr2 := P.rowOf; have kp2 := P.plain; have HQ := Lib.hid hq; have HQ1 := Lib.hid hq'; have HP2 := Lib.hid P; have HB2 := Lib.hid BB; clear P BB B hq hq')
    | (go_at_call 30; refine (HNW.out _).mono ?_; rintro e w3 ⟨rfl, rfl⟩)
    | (go_at_call 32; refine (HM.out _ _ HQ1.out).mono ?_; rintro e w3 ⟨⟨v, rfl, O⟩, B⟩; have hvf : ∃ a1 c1, v = .slice a1 M c1 := own_form O; obtain ⟨a1, c1, rfl⟩ := hvf; have HO := Lib.hid O; clear O; have HQ3 := Lib.hid (HQ.out.below B); have P := HP2.out.below B HP2.out.lt; have BB := HB2.out.trans (B.mono HB2.out.size); have kl3 := P.lt; have kr3 := P.rowOf; have kp3 := P.plain; have hc3 : w3.cell? ⟨g, off, none⟩ = some (.string s) := (B.cell (p := ⟨g, off, none⟩) hg).trans hc; have hg3 : g < w3.heap.size := Nat.lt_of_lt_of_le hg B.size; have HP3 := Lib.hid P; have HB3 := Lib.hid BB; clear P BB B)
    | (go_at_call 33; refine (HJB.out _ _ _ _ HQ3.out HO.out).mono ?_; rintro e w4 ⟨⟨d, rfl, hd⟩, B⟩; have HD := Lib.hid hd; clear hd; have P := HP3.out.below B HP3.out.lt; have BB := HB3.out.trans (B.mono HB3.out.size); have kl4 := P.lt; have kr4 := P.rowOf; have kp4 := P.plain; have hc4 : w4.cell? ⟨g, off, none⟩ = some (.string s) := (B.cell (p := ⟨g, off, none⟩) hg3).trans hc3; have hg4 : g < w4.heap.size := Nat.lt_of_lt_of_le hg3 B.size; have HP4 := Lib.hid P; have HB4 := Lib.hid BB; clear P BB B))
  refine bodyPost_ret (results_cellTmp rfl _ _ rfl (run_loadVar_blk _ _ _ 29 29 (Itm.arr d) _ 14 (HP4.out.row_ _) Tryz.underlying29 rfl (by kernel_rfl) (by simp [Itm.arr]))) rfl ?_
  exact ⟨⟨d, rfl, fun e he => HD.out e he⟩, Below.setRow HB4.out (Nat.le_refl _) _⟩

set_option maxRecDepth 100000 in
set_option maxHeartbeats 4000000 in
theorem rr_xRounds (w : World) (ln : Wd) (hln : ln.length < 4294967281) (x : Wd) (l : List Wd) (N : Nat) (hN : l.length + 1 = N) (hw : wordsL ln = x :: l) (hll : l.length < 4294967296) (hnum : numL x = none) (ns : List Nat) (M : Nat) (hMl : ns.length = M) (hM : numsR l = some ns) (hx : x = kRounds) (hm : M ≠ 1) :
    Calls Tryz.prog 16 #[.string (bs ln)] w fun e w' => RiPost (jobRr x ns) e ∧ Below w.heap.size w w' := by
  have B1 : Below w.heap.size w (w.alloc (.cells #[.int .i64 0, .int .i64 0, .int .i64 0, .int .i64 0, .int .i64 0, .int .i64 0, .int .i64 0, .int .i64 0, .int .i64 0, .int .i64 0, .int .i64 0, .int .i64 0, .int .i64 0, .int .i64 0] 29)) := (Below.refl _ _).alloc (Nat.le_refl _) _
  have P1 : Blk (w.alloc (.cells #[.int .i64 0, .int .i64 0, .int .i64 0, .int .i64 0, .int .i64 0, .int .i64 0, .int .i64 0, .int .i64 0, .int .i64 0, .int .i64 0, .int .i64 0, .int .i64 0, .int .i64 0, .int .i64 0] 29)) w.heap.size 29 #[.int .i64 0, .int .i64 0, .int .i64 0, .int .i64 0, .int .i64 0, .int .i64 0, .int .i64 0, .int .i64 0, .int .i64 0, .int .i64 0, .int .i64 0, .int .i64 0, .int .i64 0, .int .i64 0] := Blk.new _ _ _
  have hws := words_r ln (w.alloc (.cells #[.int .i64 0, .int .i64 0, .int .i64 0, .int .i64 0, .int .i64 0, .int .i64 0, .int .i64 0, .int .i64 0, .int .i64 0, .int .i64 0, .int .i64 0, .int .i64 0, .int .i64 0, .int .i64 0] 29)) hln
  rw [hw] at hws
  obtain ⟨s0, hs0⟩ : ∃ s, bs ln = s := ⟨_, rfl⟩
  rw [hs0] at hws ⊢
  obtain ⟨s, hs⟩ : ∃ s, bs x = s := ⟨_, rfl⟩
  have htl : s.toList = x := by rw [← hs]; exact bs_toList x
  have hnw := fun (W : World) => number_r x W
  have hv : numR x = -1 := by unfold numR; rw [hnum]
  simp only [hv, hs] at hnw
  have HWS := Lib.hid hws
  have HNW := Lib.hid hnw
  have HB1 := Lib.hid B1
  have HP1 := Lib.hid P1
  have HSX := Lib.hid hs
  have HNN := Lib.hid hN
  have hN2 : 1 ≤ N := by omega
  clear hws hnw B1 P1 hs hs0 hv hw hN
  have hnn := fun (W : World) (q : Value) (h : StrAt W q l) => numbers_r W q l h hll
  rw [hM] at hnn
  unfold NumsPost at hnn
  simp only at hnn
  rw [hMl] at hnn
  have HM := Lib.hid hnn
  clear hnn hM
  have hjb := fun (W : World) (q v : Value) (base : Nat) (h : StrAt W q (x :: l)) (hv : W.ownsRow base 3 1 v M (nums ns)) => job_r W q v x l base ns h (by rw [hMl]; exact hv)
  unfold RiPost Itm.arr at hjb
  have HJB := Lib.hid hjb
  obtain ⟨o, ho⟩ : ∃ o, jobRr x ns = o := ⟨_, rfl⟩
  rw [ho] at HJB ⊢
  clear hjb hMl ho
  have hm1 : ((M : Int) == 1) = false := by rw [beq_eq_false_iff_ne]; omega
  rw [hx] at htl
  clear hx
  go_enter Tryz.func16, Tryz.ntmps16
  go_wp2_with (first
    | (go_at_call 29; refine (HWS.out).mono ?_; rintro e w2 ⟨v, rfl, hq0, B⟩; have hq : StrAt w2 v (x :: l) := hq0; clear hq0; have hh := StrAt.headN hq HNN.out; obtain ⟨g, off, c, a', n', c', rfl, hc, hg, hN0, hq', hsl⟩ := hh; rw [HSX.out] at hc; have P := HP1.out.below B HP1.out.lt; have BB := HB1.out.trans (B.mono (by simp)); have kl2 := P.lt; have kr2 := P.rowOf; have kp2 := P.plain; have HQ := Lib.hid hq; have HQ1 := Lib.hid hq'; have HP2 := Lib.hid P; have HB2 := Lib.hid BB; clear P BB B hq hq')
    | (go_at_call 30; refine (HNW.out _).mono ?_; rintro e w3 ⟨rfl, rfl⟩)
    | (go_at_call 32; refine (HM.out _ _ HQ1.out).mono ?_; rintro e w3 ⟨⟨v, rfl, O⟩, B⟩; have hvf : ∃ a1 c1, v = .slice a1 M c1 := own_form O; obtain ⟨a1, c1, rfl⟩ := hvf; have HO := Lib.hid O; clear O; have HQ3 := Lib.hid (HQ.out.below B); have P := HP2.out.below B HP2.out.lt; have BB := HB2.out.trans (B.mono HB2.out.size); have kl3 := P.lt; have kr3 := P.rowOf; have kp3 := P.plain; have hc3 : w3.cell? ⟨g, off, none⟩ = some (.string s) := (B.cell (p := ⟨g, off, none⟩) hg).trans hc; have hg3 : g < w3.heap.size := Nat.lt_of_lt_of_le hg B.size; have HP3 := Lib.hid P; have HB3 := Lib.hid BB; clear P BB B)
    | (go_at_call 33; refine (HJB.out _ _ _ _ HQ3.out HO.out).mono ?_; rintro e w4 ⟨⟨d, rfl, hd⟩, B⟩; have HD := Lib.hid hd; clear hd; have P := HP3.out.below B HP3.out.lt; have BB := HB3.out.trans (B.mono HB3.out.size); have kl4 := P.lt; have kr4 := P.rowOf; have kp4 := P.plain; have hc4 : w4.cell? ⟨g, off, none⟩ = some (.string s) := (B.cell (p := ⟨g, off, none⟩) hg3).trans hc3; have hg4 : g < w4.heap.size := Nat.lt_of_lt_of_le hg3 B.size; have HP4 := Lib.hid P; have HB4 := Lib.hid BB; clear P BB B))
  refine bodyPost_ret (results_cellTmp rfl _ _ rfl (run_loadVar_blk _ _ _ 29 29 (Itm.arr d) _ 14 (HP4.out.row_ _) Tryz.underlying29 rfl (by kernel_rfl) (by simp [Itm.arr]))) rfl ?_
  exact ⟨⟨d, rfl, fun e he => HD.out e he⟩, Below.setRow HB4.out (Nat.le_refl _) _⟩

set_option maxRecDepth 100000 in
set_option maxHeartbeats 4000000 in
theorem rr_xother (w : World) (ln : Wd) (hln : ln.length < 4294967281) (x : Wd) (l : List Wd) (N : Nat) (hN : l.length + 1 = N) (hw : wordsL ln = x :: l) (hll : l.length < 4294967296) (hnum : numL x = none) (ns : List Nat) (M : Nat) (hMl : ns.length = M) (hM : numsR l = some ns) (hCore : x ≠ kCore) (hDaemon : x ≠ kDaemon) (hEvict : x ≠ kEvict) (hRounds : x ≠ kRounds) :
    Calls Tryz.prog 16 #[.string (bs ln)] w fun e w' => RiPost (jobRr x ns) e ∧ Below w.heap.size w w' := by
  have B1 : Below w.heap.size w (w.alloc (.cells #[.int .i64 0, .int .i64 0, .int .i64 0, .int .i64 0, .int .i64 0, .int .i64 0, .int .i64 0, .int .i64 0, .int .i64 0, .int .i64 0, .int .i64 0, .int .i64 0, .int .i64 0, .int .i64 0] 29)) := (Below.refl _ _).alloc (Nat.le_refl _) _
  have P1 : Blk (w.alloc (.cells #[.int .i64 0, .int .i64 0, .int .i64 0, .int .i64 0, .int .i64 0, .int .i64 0, .int .i64 0, .int .i64 0, .int .i64 0, .int .i64 0, .int .i64 0, .int .i64 0, .int .i64 0, .int .i64 0] 29)) w.heap.size 29 #[.int .i64 0, .int .i64 0, .int .i64 0, .int .i64 0, .int .i64 0, .int .i64 0, .int .i64 0, .int .i64 0, .int .i64 0, .int .i64 0, .int .i64 0, .int .i64 0, .int .i64 0, .int .i64 0] := Blk.new _ _ _
  have hws := words_r ln (w.alloc (.cells #[.int .i64 0, .int .i64 0, .int .i64 0, .int .i64 0, .int .i64 0, .int .i64 0, .int .i64 0, .int .i64 0, .int .i64 0, .int .i64 0, .int .i64 0, .int .i64 0, .int .i64 0, .int .i64 0] 29)) hln
  rw [hw] at hws
  obtain ⟨s0, hs0⟩ : ∃ s, bs ln = s := ⟨_, rfl⟩
  rw [hs0] at hws ⊢
  obtain ⟨s, hs⟩ : ∃ s, bs x = s := ⟨_, rfl⟩
  have htl : s.toList = x := by rw [← hs]; exact bs_toList x
  have hnw := fun (W : World) => number_r x W
  have hv : numR x = -1 := by unfold numR; rw [hnum]
  simp only [hv, hs] at hnw
  have HWS := Lib.hid hws
  have HNW := Lib.hid hnw
  have HB1 := Lib.hid B1
  have HP1 := Lib.hid P1
  have HSX := Lib.hid hs
  have HNN := Lib.hid hN
  have hN2 : 1 ≤ N := by omega
  clear hws hnw B1 P1 hs hs0 hv hw hN
  have hnn := fun (W : World) (q : Value) (h : StrAt W q l) => numbers_r W q l h hll
  rw [hM] at hnn
  unfold NumsPost at hnn
  simp only at hnn
  rw [hMl] at hnn
  have HM := Lib.hid hnn
  clear hnn hM
  have hjb := fun (W : World) (q v : Value) (base : Nat) (h : StrAt W q (x :: l)) (hv : W.ownsRow base 3 1 v M (nums ns)) => job_r W q v x l base ns h (by rw [hMl]; exact hv)
  unfold RiPost Itm.arr at hjb
  have HJB := Lib.hid hjb
  obtain ⟨o, ho⟩ : ∃ o, jobRr x ns = o := ⟨_, rfl⟩
  rw [ho] at HJB ⊢
  clear hjb hMl ho
  have gCore : (x == [99, 111, 114, 101]) = false := by simpa using hCore
  have gDaemon : (x == [100, 97, 101, 109, 111, 110]) = false := by simpa using hDaemon
  have gEvict : (x == [101, 118, 105, 99, 116]) = false := by simpa using hEvict
  have gRounds : (x == [114, 111, 117, 110, 100, 115]) = false := by simpa using hRounds
  go_enter Tryz.func16, Tryz.ntmps16
  go_wp2_with (first
    | (go_at_call 29; refine (HWS.out).mono ?_; rintro e w2 ⟨v, rfl, hq0, B⟩; have hq : StrAt w2 v (x :: l) := hq0; clear hq0; have hh := StrAt.headN hq HNN.out; obtain ⟨g, off, c, a', n', c', rfl, hc, hg, hN0, hq', hsl⟩ := hh; rw [HSX.out] at hc; have P := HP1.out.below B HP1.out.lt; have BB := HB1.out.trans (B.mono (by simp)); have kl2 := P.lt; have kr2 := P.rowOf; have kp2 := P.plain; have HQ := Lib.hid hq; have HQ1 := Lib.hid hq'; have HP2 := Lib.hid P; have HB2 := Lib.hid BB; clear P BB B hq hq')
    | (go_at_call 30; refine (HNW.out _).mono ?_; rintro e w3 ⟨rfl, rfl⟩)
    | (go_at_call 32; refine (HM.out _ _ HQ1.out).mono ?_; rintro e w3 ⟨⟨v, rfl, O⟩, B⟩; have hvf : ∃ a1 c1, v = .slice a1 M c1 := own_form O; obtain ⟨a1, c1, rfl⟩ := hvf; have HO := Lib.hid O; clear O; have HQ3 := Lib.hid (HQ.out.below B); have P := HP2.out.below B HP2.out.lt; have BB := HB2.out.trans (B.mono HB2.out.size); have kl3 := P.lt; have kr3 := P.rowOf; have kp3 := P.plain; have hc3 : w3.cell? ⟨g, off, none⟩ = some (.string s) := (B.cell (p := ⟨g, off, none⟩) hg).trans hc; have hg3 : g < w3.heap.size := Nat.lt_of_lt_of_le hg B.size; have HP3 := Lib.hid P; have HB3 := Lib.hid BB; clear P BB B)
    | (go_at_call 33; refine (HJB.out _ _ _ _ HQ3.out HO.out).mono ?_; rintro e w4 ⟨⟨d, rfl, hd⟩, B⟩; have HD := Lib.hid hd; clear hd; have P := HP3.out.below B HP3.out.lt; have BB := HB3.out.trans (B.mono HB3.out.size); have kl4 := P.lt; have kr4 := P.rowOf; have kp4 := P.plain; have hc4 : w4.cell? ⟨g, off, none⟩ = some (.string s) := (B.cell (p := ⟨g, off, none⟩) hg3).trans hc3; have hg4 : g < w4.heap.size := Nat.lt_of_lt_of_le hg3 B.size; have HP4 := Lib.hid P; have HB4 := Lib.hid BB; clear P BB B))
  refine bodyPost_ret (results_cellTmp rfl _ _ rfl (run_loadVar_blk _ _ _ 29 29 (Itm.arr d) _ 14 (HP4.out.row_ _) Tryz.underlying29 rfl (by kernel_rfl) (by simp [Itm.arr]))) rfl ?_
  exact ⟨⟨d, rfl, fun e he => HD.out e he⟩, Below.setRow HB4.out (Nat.le_refl _) _⟩

set_option maxRecDepth 100000 in
set_option maxHeartbeats 4000000 in
theorem rr_one (w : World) (ln : Wd) (hln : ln.length < 4294967281) (x : Wd) (l : List Wd) (N : Nat) (hN : l.length + 1 = N) (hw : wordsL ln = x :: l) (hll : l.length < 4294967296) (p : Nat) (hnum : numL x = some p) (ns : List Nat) (M : Nat) (hMl : ns.length = M) (hM : numsR l = some ns) (hCore : x ≠ kCore) (hDaemon : x ≠ kDaemon) (hEvict : x ≠ kEvict) (hRounds : x ≠ kRounds) (hn1 : N = 1) :
    Calls Tryz.prog 16 #[.string (bs ln)] w fun e w' => RiPost (jobRr x ns) e ∧ Below w.heap.size w w' := by
  have B1 : Below w.heap.size w (w.alloc (.cells #[.int .i64 0, .int .i64 0, .int .i64 0, .int .i64 0, .int .i64 0, .int .i64 0, .int .i64 0, .int .i64 0, .int .i64 0, .int .i64 0, .int .i64 0, .int .i64 0, .int .i64 0, .int .i64 0] 29)) := (Below.refl _ _).alloc (Nat.le_refl _) _
  have P1 : Blk (w.alloc (.cells #[.int .i64 0, .int .i64 0, .int .i64 0, .int .i64 0, .int .i64 0, .int .i64 0, .int .i64 0, .int .i64 0, .int .i64 0, .int .i64 0, .int .i64 0, .int .i64 0, .int .i64 0, .int .i64 0] 29)) w.heap.size 29 #[.int .i64 0, .int .i64 0, .int .i64 0, .int .i64 0, .int .i64 0, .int .i64 0, .int .i64 0, .int .i64 0, .int .i64 0, .int .i64 0, .int .i64 0, .int .i64 0, .int .i64 0, .int .i64 0] := Blk.new _ _ _
  have hws := words_r ln (w.alloc (.cells #[.int .i64 0, .int .i64 0, .int .i64 0, .int .i64 0, .int .i64 0, .int .i64 0, .int .i64 0, .int .i64 0, .int .i64 0, .int .i64 0, .int .i64 0, .int .i64 0, .int .i64 0, .int .i64 0] 29)) hln
  rw [hw] at hws
  obtain ⟨s0, hs0⟩ : ∃ s, bs ln = s := ⟨_, rfl⟩
  rw [hs0] at hws ⊢
  obtain ⟨s, hs⟩ : ∃ s, bs x = s := ⟨_, rfl⟩
  have htl : s.toList = x := by rw [← hs]; exact bs_toList x
  have hnw := fun (W : World) => number_r x W
  have hv : numR x = (p : Int) := by unfold numR; rw [hnum]
  simp only [hv, hs] at hnw
  have HWS := Lib.hid hws
  have HNW := Lib.hid hnw
  have HB1 := Lib.hid B1
  have HP1 := Lib.hid P1
  have HSX := Lib.hid hs
  have HNN := Lib.hid hN
  have hN2 : 1 ≤ N := by omega
  clear hws hnw B1 P1 hs hs0 hv hw hN
  have hnn := fun (W : World) (q : Value) (h : StrAt W q l) => numbers_r W q l h hll
  rw [hM] at hnn
  unfold NumsPost at hnn
  simp only at hnn
  rw [hMl] at hnn
  have HM := Lib.hid hnn
  clear hnn hM
  have hjb := fun (W : World) (q v : Value) (base : Nat) (h : StrAt W q (x :: l)) (hv : W.ownsRow base 3 1 v M (nums ns)) => job_r W q v x l base ns h (by rw [hMl]; exact hv)
  unfold RiPost Itm.arr at hjb
  have HJB := Lib.hid hjb
  obtain ⟨o, ho⟩ : ∃ o, jobRr x ns = o := ⟨_, rfl⟩
  rw [ho] at HJB ⊢
  clear hjb hMl ho
  have gCore : (x == [99, 111, 114, 101]) = false := by simpa using hCore
  have gDaemon : (x == [100, 97, 101, 109, 111, 110]) = false := by simpa using hDaemon
  have gEvict : (x == [101, 118, 105, 99, 116]) = false := by simpa using hEvict
  have gRounds : (x == [114, 111, 117, 110, 100, 115]) = false := by simpa using hRounds
  subst hn1
  go_enter Tryz.func16, Tryz.ntmps16
  go_wp2_with (first
    | (go_at_call 29; refine (HWS.out).mono ?_; rintro e w2 ⟨v, rfl, hq0, B⟩; have hq : StrAt w2 v (x :: l) := hq0; clear hq0; have hh := StrAt.headN hq HNN.out; obtain ⟨g, off, c, a', n', c', rfl, hc, hg, hN0, hq', hsl⟩ := hh; rw [HSX.out] at hc; have P := HP1.out.below B HP1.out.lt; have BB := HB1.out.trans (B.mono (by simp)); have kl2 := P.lt; have kr2 := P.rowOf; have kp2 := P.plain; have HQ := Lib.hid hq; have HQ1 := Lib.hid hq'; have HP2 := Lib.hid P; have HB2 := Lib.hid BB; clear P BB B hq hq')
    | (go_at_call 30; refine (HNW.out _).mono ?_; rintro e w3 ⟨rfl, rfl⟩)
    | (go_at_call 32; refine (HM.out _ _ HQ1.out).mono ?_; rintro e w3 ⟨⟨v, rfl, O⟩, B⟩; have hvf : ∃ a1 c1, v = .slice a1 M c1 := own_form O; obtain ⟨a1, c1, rfl⟩ := hvf; have HO := Lib.hid O; clear O; have HQ3 := Lib.hid (HQ.out.below B); have P := HP2.out.below B HP2.out.lt; have BB := HB2.out.trans (B.mono HB2.out.size); have kl3 := P.lt; have kr3 := P.rowOf; have kp3 := P.plain; have hc3 : w3.cell? ⟨g, off, none⟩ = some (.string s) := (B.cell (p := ⟨g, off, none⟩) hg).trans hc; have hg3 : g < w3.heap.size := Nat.lt_of_lt_of_le hg B.size; have HP3 := Lib.hid P; have HB3 := Lib.hid BB; clear P BB B)
    | (go_at_call 33; refine (HJB.out _ _ _ _ HQ3.out HO.out).mono ?_; rintro e w4 ⟨⟨d, rfl, hd⟩, B⟩; have HD := Lib.hid hd; clear hd; have P := HP3.out.below B HP3.out.lt; have BB := HB3.out.trans (B.mono HB3.out.size); have kl4 := P.lt; have kr4 := P.rowOf; have kp4 := P.plain; have hc4 : w4.cell? ⟨g, off, none⟩ = some (.string s) := (B.cell (p := ⟨g, off, none⟩) hg3).trans hc3; have hg4 : g < w4.heap.size := Nat.lt_of_lt_of_le hg3 B.size; have HP4 := Lib.hid P; have HB4 := Lib.hid BB; clear P BB B))
  refine bodyPost_ret (results_cellTmp rfl _ _ rfl (run_loadVar_blk _ _ _ 29 29 (Itm.arr d) _ 14 (HP4.out.row_ _) Tryz.underlying29 rfl (by kernel_rfl) (by simp [Itm.arr]))) rfl ?_
  exact ⟨⟨d, rfl, fun e he => HD.out e he⟩, Below.setRow HB4.out (Nat.le_refl _) _⟩

end Go.Proofs.YtccoafacbbkooaaGreatDoor
