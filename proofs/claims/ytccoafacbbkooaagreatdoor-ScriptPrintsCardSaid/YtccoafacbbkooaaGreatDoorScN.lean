/- Script: parts of a slice of words; the reference's policy. -/
import Derived.Test.YtccoafacbbkooaaGreatDoorScM
namespace Go.Proofs.YtccoafacbbkooaaGreatDoor
open Go.RowKit Go.Maps

theorem size9 (W : World) : (sizeOf (Tryz.prog.elem 48)).run Tryz.prog W = .ok 1 W := by kernel_rfl
theorem StrAt.window {w : World} {q : Value} {ws : List Wd} (h : StrAt w q ws) {l m : Nat} (h1 : l ≤ m) (h2 : m ≤ ws.length) :
    ∃ a c a' n' c', q = .slice a ws.length c ∧ ws.length ≤ c ∧ sliced a l m c 1 = .slice a' n' c' ∧ n' = m - l ∧ StrAt w (.slice a' n' c') ((ws.drop l).take (m - l)) := by
  obtain ⟨a, c, e1, e2, e3⟩ := h
  have hlen : ((ws.drop l).take (m - l)).length = m - l := by simp; omega
  rcases e3 with ⟨rfl, rfl⟩ | ⟨g, off, cs, rfl, b1, b2, b3⟩
  · have : m = 0 := by simpa using h2
    subst this
    have : l = 0 := by omega
    subst this
    refine ⟨none, c, none, 0, c, e1, e2, ?_, rfl, none, c, rfl, by simp, .inl ⟨rfl, rfl⟩⟩
    unfold sliced
    split <;> rfl
  · by_cases hc : c = l
    · have : m = l := by omega
      subst this
      refine ⟨_, c, some ⟨g, off, none⟩, m - m, c - m, e1, e2, by unfold sliced; rw [if_pos hc], rfl, some ⟨g, off, none⟩, c - m, by rw [hlen], by rw [hlen]; omega, .inr ⟨g, off, cs, rfl, b1, by rw [hlen]; omega, fun j x hj => ?_⟩⟩
      have := (List.getElem?_eq_some_iff.1 hj).1
      rw [hlen] at this
      omega
    · refine ⟨_, c, some ⟨g, off + l, none⟩, m - l, c - l, e1, e2, ?_, rfl, some ⟨g, off + l, none⟩, c - l, by rw [hlen], by rw [hlen]; omega, .inr ⟨g, off + l, cs, rfl, b1, by rw [hlen]; omega, fun j x hj => ?_⟩⟩
      · unfold sliced
        rw [if_neg hc]
        simp [Addr.add]
      · have hlt := (List.getElem?_eq_some_iff.1 hj).1
        rw [hlen] at hlt
        rw [List.getElem?_take_of_lt hlt, List.getElem?_drop] at hj
        rw [Nat.add_assoc]
        exact b3 _ _ hj
/-- q[l:m]. -/
theorem StrAt.mid {w : World} {q : Value} {ws : List Wd} (h : StrAt w q ws) {l m : Nat} (h1 : l ≤ m) (h2 : m ≤ ws.length) :
    ∃ a' n' c', (∀ W, (Instr.slice 48 q (some (.int .i64 (l : Int))) (some (.int .i64 (m : Int))) none).run Tryz.prog W = .ok (.slice a' n' c') W) ∧ n' = m - l ∧ StrAt w (.slice a' n' c') ((ws.drop l).take (m - l)) := by
  obtain ⟨a, c, a', n', c', rfl, hc, hs, hn, hw⟩ := h.window h1 h2
  refine ⟨a', n', c', fun W => ?_, hn, hw⟩
  rw [run_slice_lh (P := Tryz.prog) (w := W) 48 a ws.length c (by kernel_rfl) .i64 .i64 _ _ (by omega) (by omega) (by omega), size9]
  simp only [Result.andThen, Int.toNat_natCast]
  rw [hs]
/-- q[l:]. -/
theorem StrAt.rest {w : World} {q : Value} {ws : List Wd} (h : StrAt w q ws) {l : Nat} (h1 : l ≤ ws.length) :
    ∃ a' n' c', (∀ W, (Instr.slice 48 q (some (.int .i64 (l : Int))) none none).run Tryz.prog W = .ok (.slice a' n' c') W) ∧ n' = ws.length - l ∧ StrAt w (.slice a' n' c') (ws.drop l) := by
  obtain ⟨a, c, a', n', c', rfl, hc, hs, hn, hw⟩ := h.window h1 (Nat.le_refl _)
  refine ⟨a', n', c', fun W => ?_, hn, ?_⟩
  · rw [run_slice_l (P := Tryz.prog) (w := W) 48 a ws.length c (by kernel_rfl) .i64 _ (by omega) (by omega), size9]
    simp only [Result.andThen, Int.toNat_natCast]
    rw [hs]
  · rw [List.take_of_length_le (by simp)] at hw
    exact hw

theorem policy_r (w : World) (q : Value) (ws : List Wd) (h : StrAt w q ws) : Calls Tryz.prog 48 #[q] w fun e w' => e = .returned (polR2 (polR ws)) ∧ Below w.heap.size w w' := by
  match ws, h with
  | [], h =>
    obtain ⟨a, c, rfl, _⟩ := h
    exact pol_n w a 0 c (by decide) (by decide)
  | [x], h =>
    obtain ⟨g, off, c, e, hc, hg, _⟩ := h.get (k := 0) (by simp)
    rw [e]
    by_cases h1 : x = kLocal
    · have : polR [x] = some (0, 0) := by simp [polR, h1]
      rw [this]; exact pol_1y w g off c x hc hg h1
    · have : polR [x] = none := by simp [polR, h1]
      rw [this]; exact pol_1n w g off c x hc hg h1
  | [x, y], h =>
    obtain ⟨g, off, c, e, hc, hg, _⟩ := h.get (k := 0) (by simp)
    obtain ⟨g1, off1, c1, e1, hc1, _, _⟩ := h.get (k := 1) (by simp)
    rw [e] at e1 ⊢
    obtain ⟨rfl, rfl⟩ : g = g1 ∧ off = off1 := by injection e1 with h1 h2 h3; injection h1 with h1; injection h1 with h1 h2; exact ⟨h1, h2⟩
    cases hn : numL y with
    | none =>
      have : polR [x, y] = none := by simp [polR, hn]
      rw [this]; exact pol_2none w g off c x y hc hc1 hg hn
    | some n =>
      by_cases h1 : x = kBind
      · have : polR [x, y] = some (1, (n : Int)) := by simp [polR, hn, h1]
        rw [this]; exact pol_2Bind w g off c x y hc hc1 hg n hn h1
      · by_cases h2 : x = kPrefer
        · have : polR [x, y] = some (2, (n : Int)) := by simp [polR, hn, h2]
          rw [this]; exact pol_2Prefer w g off c x y hc hc1 hg n hn h2
        · by_cases h3 : x = kMix
          · have : polR [x, y] = some (3, (n : Int)) := by simp [polR, hn, h3]
            rw [this]; exact pol_2Mix w g off c x y hc hc1 hg n hn h3
          · have : polR [x, y] = none := by simp [polR, hn, h1, h2, h3]
            rw [this]; exact pol_2bad w g off c x y hc hc1 hg n hn h1 h2 h3
  | x :: y :: z :: t, h =>
    have : polR (x :: y :: z :: t) = none := rfl
    rw [this]
    obtain ⟨a, c, rfl, _⟩ := h
    exact pol_n w a _ c (by simp) (by simp)
end Go.Proofs.YtccoafacbbkooaaGreatDoor
