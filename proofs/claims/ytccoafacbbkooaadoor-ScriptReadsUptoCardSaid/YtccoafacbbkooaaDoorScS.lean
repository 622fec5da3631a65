/- Script: the reference's read, whole; its Read. -/
import Derived.Test.YtccoafacbbkooaaDoorScR
namespace Go.Proofs.YtccoafacbbkooaaDoor
open Go.RowKit Go.Maps

theorem words_len : ∀ l : Wd, (wordsL l).length ≤ l.length + 1
  | [] => by simp [wordsL]
  | c :: l => by
    have ih := words_len l
    unfold wordsL
    split
    · simp only [List.length_cons]; omega
    · cases h : wordsL l with
      | nil => simp [consHead]
      | cons x r =>
        rw [h] at ih
        simp only [consHead, List.length_cons] at ih ⊢
        omega
theorem num_key {x : Wd} {p : Nat} (h : numL x = some p) : x ≠ kCore ∧ x ≠ kDaemon ∧ x ≠ kEvict ∧ x ≠ kRounds ∧ jobK x = none := by
  have hn : ∀ y, numL y = none → x ≠ y := by
    rintro y hy rfl
    rw [hy] at h
    cases h
  refine ⟨hn _ (by decide), hn _ (by decide), hn _ (by decide), hn _ (by decide), ?_⟩
  unfold jobK
  rw [if_neg (hn _ (by decide)), if_neg (hn _ (by decide)), if_neg (hn _ (by decide)), if_neg (hn _ (by decide))]
theorem readR_job {x : Wd} {l : List Wd} {ns : List Nat} (hn : numL x = none) (hM : numsR l = some ns)
    (h1 : x = kCore → ns.length ≠ 1) (h2 : x = kDaemon → ns.length ≠ 1) (h3 : x = kEvict → ns.length ≠ 2) (h4 : x = kRounds → ns.length ≠ 1) : readR (x :: l) = jobRr x ns := by
  unfold readR jobRr
  simp only [hn, hM]
  by_cases k1 : x = kCore
  · rw [if_pos k1]
    have hj : jobK x = none := by rw [k1]; rfl
    rw [hj]
    match ns, h1 k1 with
    | [], _ => rfl
    | [a], h => exact absurd rfl h
    | a :: b :: t, _ => rfl
  · rw [if_neg k1]
    by_cases k2 : x = kDaemon
    · rw [if_pos k2]
      have hj : jobK x = none := by rw [k2]; rfl
      rw [hj]
      match ns, h2 k2 with
      | [], _ => rfl
      | [a], h => exact absurd rfl h
      | a :: b :: t, _ => rfl
    · rw [if_neg k2]
      by_cases k3 : x = kEvict
      · rw [if_pos k3]
        have hj : jobK x = none := by rw [k3]; rfl
        rw [hj]
        match ns, h3 k3 with
        | [], _ => rfl
        | [a], _ => rfl
        | [a, b], h => exact absurd rfl h
        | a :: b :: c :: t, _ => rfl
      · rw [if_neg k3]
        by_cases k4 : x = kRounds
        · rw [if_pos k4]
          have hj : jobK x = none := by rw [k4]; rfl
          rw [hj]
          match ns, h4 k4 with
          | [], _ => rfl
          | [a], h => exact absurd rfl h
          | a :: b :: t, _ => rfl
        · rw [if_neg k4]
          cases jobK x <;> rfl
theorem read_r (w : World) (ln : Wd) (hln : ln.length < 4294967281) : Calls Tryd.prog 9 #[.string (bs ln)] w fun e w' => RiPost (readR (wordsL ln)) e ∧ Below w.heap.size w w' := by
  have hlen := words_len ln
  match hw : wordsL ln with
  | [] => exact absurd hw (wordsL_ne ln)
  | x :: l =>
    rw [hw, List.length_cons] at hlen
    have hll : l.length < 4294967296 := by omega
    cases hnum : numL x with
    | some p =>
      match l, hw, hll with
      | [], hw, hll =>
        obtain ⟨h1, h2, h3, h4, h5⟩ := num_key hnum
        have e : readR [x] = jobRr x [] := by
          unfold readR jobRr
          rw [h5]
          simp only [hnum]
          rfl
        rw [e]
        exact rr_one w ln hln x [] 1 rfl hw hll p hnum [] 0 rfl rfl h1 h2 h3 h4 rfl
      | y :: t, hw, hll =>
        have e : readR (x :: y :: t) = ((callR (y :: t)).map fun c => ({ i0 with kind := 1, who := (p : Int), call := c } : Itm)) := by
          unfold readR
          simp only [hnum]
        rw [e]
        exact rr_call w ln hln x (y :: t) _ rfl hw p hnum y t rfl (by simp only [List.length_cons] at hll; omega) _ rfl
    | none =>
      cases hM : numsR l with
      | none =>
        have e : readR (x :: l) = none := by unfold readR; simp only [hnum, hM]
        rw [e]
        exact rr_bad w ln hln x l _ rfl hw hll hnum hM
      | some ns =>
        by_cases k1 : x = kCore
        · by_cases hm : ns.length = 1
          · obtain ⟨p, rfl⟩ := List.length_eq_one_iff.1 hm
            have e : readR (x :: l) = some { i0 with kind := 2, who := (p : Int) } := by unfold readR; simp only [hnum, hM]; rw [if_pos k1]
            rw [e]
            exact rr_Core w ln hln x l _ rfl hw hll hnum k1 p hM
          · rw [readR_job hnum hM (fun _ => hm) (by rw [k1]; intro h; cases h) (by rw [k1]; intro h; cases h) (by rw [k1]; intro h; cases h)]
            exact rr_xCore w ln hln x l _ rfl hw hll hnum ns _ rfl hM k1 hm
        · by_cases k2 : x = kDaemon
          · by_cases hm : ns.length = 1
            · obtain ⟨p, rfl⟩ := List.length_eq_one_iff.1 hm
              have e : readR (x :: l) = some { i0 with kind := 4, who := (p : Int) } := by unfold readR; simp only [hnum, hM]; rw [if_neg k1, if_pos k2]
              rw [e]
              exact rr_Daemon w ln hln x l _ rfl hw hll hnum k2 p hM
            · rw [readR_job hnum hM (fun h => absurd h k1) (fun _ => hm) (by rw [k2]; intro h; cases h) (by rw [k2]; intro h; cases h)]
              exact rr_xDaemon w ln hln x l _ rfl hw hll hnum ns _ rfl hM k2 hm
          · by_cases k3 : x = kEvict
            · by_cases hm : ns.length = 2
              · obtain ⟨p, q, rfl⟩ : ∃ p q, ns = [p, q] := by
                  match ns, hm with
                  | [p, q], _ => exact ⟨p, q, rfl⟩
                have e : readR (x :: l) = some { i0 with kind := 5, who := (p : Int), n := (q : Int) } := by unfold readR; simp only [hnum, hM]; rw [if_neg k1, if_neg k2, if_pos k3]
                rw [e]
                exact rr_Evict w ln hln x l _ rfl hw hll hnum k3 p q hM
              · rw [readR_job hnum hM (fun h => absurd h k1) (fun h => absurd h k2) (fun _ => hm) (by rw [k3]; intro h; cases h)]
                exact rr_xEvict w ln hln x l _ rfl hw hll hnum ns _ rfl hM k3 hm
            · by_cases k4 : x = kRounds
              · by_cases hm : ns.length = 1
                · obtain ⟨p, rfl⟩ := List.length_eq_one_iff.1 hm
                  have e : readR (x :: l) = some { i0 with kind := 6, n := (p : Int) } := by unfold readR; simp only [hnum, hM]; rw [if_neg k1, if_neg k2, if_neg k3, if_pos k4]
                  rw [e]
                  exact rr_Rounds w ln hln x l _ rfl hw hll hnum k4 p hM
                · rw [readR_job hnum hM (fun h => absurd h k1) (fun h => absurd h k2) (fun h => absurd h k3) (fun _ => hm)]
                  exact rr_xRounds w ln hln x l _ rfl hw hll hnum ns _ rfl hM k4 hm
              · rw [readR_job hnum hM (fun h => absurd h k1) (fun h => absurd h k2) (fun h => absurd h k3) (fun h => absurd h k4)]
                exact rr_xother w ln hln x l _ rfl hw hll hnum ns _ rfl hM k1 k2 k3 k4

set_option maxRecDepth 100000 in
set_option maxHeartbeats 2000000 in
theorem Read_r (w : World) (ln : Wd) (hln : ln.length < 4294967281) : Calls Tryd.prog 5 #[.string (bs ln)] w fun e w' => e = .returned (resV (readR (wordsL ln))) ∧ Below w.heap.size w w' := by
  have B1 : Below w.heap.size w (w.alloc (.cells i0.arr 29)) := (Below.refl _ _).alloc (Nat.le_refl _) _
  have P1 : Blk (w.alloc (.cells i0.arr 29)) w.heap.size 29 i0.arr := Blk.new _ _ _
  have hr := read_r (w.alloc (.cells i0.arr 29)) ln hln
  obtain ⟨s, hs⟩ : ∃ s, bs ln = s := ⟨_, rfl⟩
  obtain ⟨o, ho⟩ : ∃ o, readR (wordsL ln) = o := ⟨_, rfl⟩
  rw [hs, ho] at hr
  rw [hs, ho]
  unfold RiPost Itm.arr i0 c0 at hr
  unfold Itm.arr i0 c0 at P1 B1
  simp only at hr P1 B1
  have HR := Lib.hid hr
  have HP1 := Lib.hid P1
  have HB1 := Lib.hid B1
  clear hr P1 B1 hs ho
  cases o with
  | none =>
    go_enter Tryd.func5, Tryd.ntmps5
    go_wp2_with (go_at_call 9; refine (HR.out).mono ?_; rintro e w2 ⟨⟨y, rfl, hy⟩, B⟩; have P := HP1.out.below B HP1.out.lt; have BB := HB1.out.trans (B.mono (by simp)); have kl := P.lt; have kr := P.rowOf; have kp := P.plain; have HP2 := Lib.hid P; have HB2 := Lib.hid BB; clear P BB B hy)
    refine bodyPost_ret (results_cellTmp rfl _ _ rfl (run_loadVar_blk _ _ _ 29 29 (Itm.arr i0) _ 14 ((HP2.out.new2 _).row_ _) Tryd.underlying29 rfl (by kernel_rfl) (by simp [Itm.arr]))) rfl ?_
    exact ⟨rfl, Below.setRow (HB2.out.alloc (Nat.le_of_lt kl) _) (Nat.le_refl _) _⟩
  | some z =>
    go_enter Tryd.func5, Tryd.ntmps5
    go_wp2_with (go_at_call 9; refine (HR.out).mono ?_; rintro e w2 ⟨⟨y, rfl, hy⟩, B⟩; have P := HP1.out.below B HP1.out.lt; have BB := HB1.out.trans (B.mono (by simp)); have kl := P.lt; have kr := P.rowOf; have kp := P.plain; have HY := Lib.hid (hy z rfl); have HP2 := Lib.hid P; have HB2 := Lib.hid BB; clear P BB B hy)
    refine bodyPost_ret (results_cellTmp rfl _ _ rfl (run_loadVar_blk _ _ _ 29 29 (Itm.arr y) _ 14 ((HP2.out.new2 _).row_ _) Tryd.underlying29 rfl (by kernel_rfl) (by simp [Itm.arr]))) rfl ?_
    exact ⟨by rw [HY.out]; rfl, Below.setRow (HB2.out.alloc (Nat.le_of_lt kl) _) (Nat.le_refl _) _⟩
end Go.Proofs.YtccoafacbbkooaaDoor
