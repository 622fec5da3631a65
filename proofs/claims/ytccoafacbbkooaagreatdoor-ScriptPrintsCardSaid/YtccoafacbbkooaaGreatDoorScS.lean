/- Script: the reference's read, whole. -/
import Derived.Test.YtccoafacbbkooaaGreatDoorScR
namespace Go.Proofs.YtccoafacbbkooaaGreatDoor
open Go.RowKit Go.Maps

theorem words_len : ∀ l : Wd, (wordsL l).length ≤ l.length + 1
  | [] => by simp [wordsL]
  | c :: l => by
    have ih := words_len l
    unfold wordsL
    split
    · simp only [List.length_cons]; omega
    · cases h : wordsL l with
      | nil => simp [consHead]
      | cons x r =>
        rw [h] at ih
        simp only [consHead, List.length_cons] at ih ⊢
        omega
theorem num_key {x : Wd} {p : Nat} (h : numL x = some p) : x ≠ kCore ∧ x ≠ kDaemon ∧ x ≠ kEvict ∧ x ≠ kRounds ∧ jobK x = none := by
  have hn : ∀ y, numL y = none → x ≠ y := by
    rintro y hy rfl
    rw [hy] at h
    cases h
  refine ⟨hn _ (by decide), hn _ (by decide), hn _ (by decide), hn _ (by decide), ?_⟩
  unfold jobK
  rw [if_neg (hn _ (by decide)), if_neg (hn _ (by decide)), if_neg (hn _ (by decide)), if_neg (hn _ (by decide))]
theorem readR_job {x : Wd} {l : List Wd} {ns : List Nat} (hn : numL x = none) (hM : numsR l = some ns)
    (h1 : x = kCore → ns.length ≠ 1) (h2 : x = kDaemon → ns.length ≠ 1) (h3 : x = kEvict → ns.length ≠ 2) (h4 : x = kRounds → ns.length ≠ 1) : readR (x :: l) = jobRr x ns := by
  unfold readR jobRr
  simp only [hn, hM]
  by_cases k1 : x = kCore
  · rw [if_pos k1]
    have hj : jobK x = none := by rw [k1]; rfl
    rw [hj]
    match ns, h1 k1 with
    | [], _ => rfl
    | [a], h => exact absurd rfl h
    | a :: b :: t, _ => rfl
  · rw [if_neg k1]
    by_cases k2 : x = kDaemon
    · rw [if_pos k2]
      have hj : jobK x = none := by rw [k2]; rfl
      rw [hj]
      match ns, h2 k2 with
      | [], _ => rfl
      | [a], h => exact absurd rfl h
      | a :: b :: t, _ => rfl
    · rw [if_neg k2]
      by_cases k3 : x = kEvict
      · rw [if_pos k3]
        have hj : jobK x = none := by rw [k3]; rfl
        rw [hj]
        match ns, h3 k3 with
        | [], _ => rfl
        | [a], _ => rfl
        | [a, b], h => exact absurd rfl h
        | a :: b :: c :: t, _ => rfl
      · rw [if_neg k3]
        by_cases k4 : x = kRounds
        · rw [if_pos k4]
          have hj : jobK x = none := by rw [k4]; rfl
          rw [hj]
          match ns, h4 k4 with
          | [], _ => rfl
          | [a], h => exact absurd rfl h
          | a :: b :: t, _ => rfl
        · rw [if_neg k4]
          cases jobK x <;> rfl
theorem read_r (w : World) (ln : Wd) (hln : ln.length < 4294967281) : Calls Tryz.prog 16 #[.string (bs ln)] w fun e w' => RiPost (readR (wordsL ln)) e ∧ Below w.heap.size w w' := by
  have hlen := words_len ln
  match hw : wordsL ln with
  | [] => exact absurd hw (wordsL_ne ln)
  | x :: l =>
    rw [hw, List.length_cons] at hlen
    have hll : l.length < 4294967296 := by omega
    cases hnum : numL x with
    | some p =>
      match l, hw, hll with
      | [], hw, hll =>
        obtain ⟨h1, h2, h3, h4, h5⟩ := num_key hnum
        have e : readR [x] = jobRr x [] := by
          unfold readR jobRr
          rw [h5]
          simp only [hnum]
          rfl
        rw [e]
        exact rr_one w ln hln x [] 1 rfl hw hll p hnum [] 0 rfl rfl h1 h2 h3 h4 rfl
      | y :: t, hw, hll =>
        have e : readR (x :: y :: t) = ((callR (y :: t)).map fun c => ({ i0 with kind := 1, who := (p : Int), call := c } : Itm)) := by
          unfold readR
          simp only [hnum]
        rw [e]
        exact rr_call w ln hln x (y :: t) _ rfl hw p hnum y t rfl (by simp only [List.length_cons] at hll; omega) _ rfl
    | none =>
      cases hM : numsR l with
      | none =>
        have e : readR (x :: l) = none := by unfold readR; simp only [hnum, hM]
        rw [e]
        exact rr_bad w ln hln x l _ rfl hw hll hnum hM
      | some ns =>
        by_cases k1 : x = kCore
        · by_cases hm : ns.length = 1
          · obtain ⟨p, rfl⟩ := List.length_eq_one_iff.1 hm
            have e : readR (x :: l) = some { i0 with kind := 2, who := (p : Int) } := by unfold readR; simp only [hnum, hM]; rw [if_pos k1]
            rw [e]
            exact rr_Core w ln hln x l _ rfl hw hll hnum k1 p hM
          · rw [readR_job hnum hM (fun _ => hm) (by rw [k1]; intro h; cases h) (by rw [k1]; intro h; cases h) (by rw [k1]; intro h; cases h)]
            exact rr_xCore w ln hln x l _ rfl hw hll hnum ns _ rfl hM k1 hm
        · by_cases k2 : x = kDaemon
          · by_cases hm : ns.length = 1
            · obtain ⟨p, rfl⟩ := List.length_eq_one_iff.1 hm
              have e : readR (x :: l) = some { i0 with kind := 4, who := (p : Int) } := by unfold readR; simp only [hnum, hM]; rw [if_neg k1, if_pos k2]
              rw [e]
              exact rr_Daemon w ln hln x l _ rfl hw hll hnum k2 p hM
            · rw [readR_job hnum hM (fun h => absurd h k1) (fun _ => hm) (by rw [k2]; intro h; cases h) (by rw [k2]; intro h; cases h)]
              exact rr_xDaemon w ln hln x l _ rfl hw hll hnum ns _ rfl hM k2 hm
          · by_cases k3 : x = kEvict
            · by_cases hm : ns.length = 2
              · obtain ⟨p, q, rfl⟩ : ∃ p q, ns = [p, q] := by
                  match ns, hm with
                  | [p, q], _ => exact ⟨p, q, rfl⟩
                have e : readR (x :: l) = some { i0 with kind := 5, who := (p : Int), n := (q : Int) } := by unfold readR; simp only [hnum, hM]; rw [if_neg k1, if_neg k2, if_pos k3]
                rw [e]
                exact rr_Evict w ln hln x l _ rfl hw hll hnum k3 p q hM
              · rw [readR_job hnum hM (fun h => absurd h k1) (fun h => absurd h k2) (fun _ => hm) (by rw [k3]; intro h; cases h)]
                exact rr_xEvict w ln hln x l _ rfl hw hll hnum ns _ rfl hM k3 hm
            · by_cases k4 : x = kRounds
              · by_cases hm : ns.length = 1
                · obtain ⟨p, rfl⟩ := List.length_eq_one_iff.1 hm
                  have e : readR (x :: l) = some { i0 with kind := 6, n := (p : Int) } := by unfold readR; simp only [hnum, hM]; rw [if_neg k1, if_neg k2, if_neg k3, if_pos k4]
                  rw [e]
                  exact rr_Rounds w ln hln x l _ rfl hw hll hnum k4 p hM
                · rw [readR_job hnum hM (fun h => absurd h k1) (fun h => absurd h k2) (fun h => absurd h k3) (fun _ => hm)]
                  exact rr_xRounds w ln hln x l _ rfl hw hll hnum ns _ rfl hM k4 hm
              · rw [readR_job hnum hM (fun h => absurd h k1) (fun h => absurd h k2) (fun h => absurd h k3) (fun h => absurd h k4)]
                exact rr_xother w ln hln x l _ rfl hw hll hnum ns _ rfl hM k1 k2 k3 k4

end Go.Proofs.YtccoafacbbkooaaGreatDoor
