/- Script: the reference's call, whole. -/
import Derived.Test.YtccoafacbbkooaaGreatDoorScO
namespace Go.Proofs.YtccoafacbbkooaaGreatDoor
open Go.RowKit Go.Maps

theorem permV_nonneg {y : Wd} {v : Int} (h : permV y = some v) : 0 ≤ v := by
  unfold permV at h
  split at h
  · injection h with h; omega
  · split at h
    · injection h with h; omega
    · split at h
      · injection h with h; omega
      · cases h
theorem StrAt.cell0 {w : World} {a : Option Addr} {n c : Nat} {y : Wd} {t : List Wd} (h : StrAt w (.slice a n c) (y :: t)) :
    ∃ g off, a = some ⟨g, off, none⟩ ∧ n = t.length + 1 ∧ w.cell? ⟨g, off, none⟩ = some (.string (bs y)) ∧ g < w.heap.size := by
  obtain ⟨g, off, c', q', e, _, hc, hg, _⟩ := h.head
  injection e with e1 e2 e3
  exact ⟨g, off, e1, e2, hc, hg⟩

set_option maxRecDepth 100000 in
set_option maxHeartbeats 4000000 in
theorem call_r (w : World) (q : Value) (x : Wd) (l : List Wd) (h : StrAt w q (x :: l)) (hl : l.length < 4294967296) :
    Calls Tryz.prog 31 #[q] w fun e w' => RcPost (callR (x :: l)) e ∧ Below w.heap.size w w' := by
  obtain ⟨g, off, c, q', rfl, hcl, hc, hg, hq', _⟩ := h.head
  by_cases hL : x = kLoad
  · by_cases hn : l.length + 1 = 2
    · match l, hn with
      | [a], hn =>
        obtain ⟨a1, n1, c1, hs1, _, hq1⟩ := h.rest (l := 1) (by simp)
        cases hN : numL a with
        | none =>
          have hN1 : numsR [a] = none := by simp [numsR, hN]
          have : callR [x, a] = none := by simp [callR, hL, hN]
          rw [this]
          exact rc_bad_Load w g off _ c x hc hg hL rfl a1 n1 c1 [a] hs1 hq1 (by simp) hN1
        | some p =>
          have hN1 : numsR [a] = some [p] := by simp [numsR, hN]
          have : callR [x, a] = some { c0 with kind := 5, addr := (p : Int) } := by simp [callR, hL, hN]
          rw [this]
          exact rc_Load w g off _ c x hc hg hL rfl a1 n1 c1 [a] hs1 hq1 (by simp) p hN1
    · have : callR (x :: l) = none := by
        match l, hn with
        | [], _ => simp [callR, hL]
        | a :: b :: t, _ => simp [callR, hL]
      rw [this]
      exact rc_def_Load w g off _ c x hc hg hL hn (by omega)
  · by_cases hS : x = kStore
    · by_cases hn : l.length + 1 = 3
      · match l, hn with
        | [a, b], hn =>
          obtain ⟨a1, n1, c1, hs1, _, hq1⟩ := h.rest (l := 1) (by simp)
          cases hN : numsR [a, b] with
          | none =>
            have : callR [x, a, b] = none := by
              simp only [numsR] at hN
              cases ha : numL a <;> cases hb : numL b <;> simp_all [callR]
            rw [this]
            exact rc_bad_Store w g off _ c x hc hg hS rfl a1 n1 c1 [a, b] hs1 hq1 (by simp) hN
          | some ns =>
            cases ha : numL a with
            | none => simp [numsR, ha] at hN
            | some p =>
              cases hb : numL b with
              | none => simp [numsR, ha, hb] at hN
              | some q2 =>
                have hN1 : numsR [a, b] = some [p, q2] := by simp [numsR, ha, hb]
                have : callR [x, a, b] = some { c0 with kind := 6, addr := (p : Int), byte := (q2 : Int) } := by simp [callR, hS, ha, hb]
                rw [this]
                exact rc_Store w g off _ c x hc hg hS rfl a1 n1 c1 [a, b] hs1 hq1 (by simp) p q2 hN1
      · have : callR (x :: l) = none := by
          match l, hn with
          | [], _ => simp [callR, hS]
          | [a], _ => simp [callR, hS]
          | a :: b :: d :: t, _ => simp [callR, hS]
        rw [this]
        exact rc_def_Store w g off _ c x hc hg hS hn (by omega)
    · match l, hcl, hl, h with
      | [], hcl, hl, h =>
        have : callR [x] = none := by simp [callR, hL, hS]
        rw [this]
        by_cases h1 : x = kMap
        · exact rc_def_Map w g off _ c x hc hg h1 (by simp) (by simp)
        · by_cases h2 : x = kUnmap
          · exact rc_def_Unmap w g off _ c x hc hg h2 (by simp) (by simp)
          · by_cases h3 : x = kProtect
            · exact rc_def_Protect w g off _ c x hc hg h3 (by simp) (by simp)
            · by_cases h4 : x = kBind
              · exact rc_def_Bind w g off _ c x hc hg h4 (by simp) (by simp)
              · exact rc_def_other w g off _ c x hc hg hL hS h1 h2 h3 h4 (by simp)
      | [a], hcl, hl, h =>
        have : callR [x, a] = none := by simp [callR, hL, hS]
        rw [this]
        by_cases h1 : x = kMap
        · exact rc_def_Map w g off _ c x hc hg h1 (by simp) (by simp)
        · by_cases h2 : x = kUnmap
          · exact rc_def_Unmap w g off _ c x hc hg h2 (by simp) (by simp)
          · by_cases h3 : x = kProtect
            · exact rc_def_Protect w g off _ c x hc hg h3 (by simp) (by simp)
            · by_cases h4 : x = kBind
              · exact rc_def_Bind w g off _ c x hc hg h4 (by simp) (by simp)
              · exact rc_def_other w g off _ c x hc hg hL hS h1 h2 h3 h4 (by simp)
      | a :: b :: t, hcl, hl, h =>
        obtain ⟨a1, n1, c1, hs1, _, hq1⟩ := h.mid (l := 1) (m := 3) (by omega) (by simp)
        obtain ⟨a2, n2, c2, hs2, _, hq2⟩ := h.rest (l := 3) (by simp)
        have hq1' : StrAt w (.slice a1 n1 c1) [a, b] := hq1
        have hq2' : StrAt w (.slice a2 n2 c2) t := hq2
        have hlen : ([a, b] : List Wd).length < 4294967296 := by simp
        -- the two numbers
        have bad : numsR [a, b] = none → (callR (x :: a :: b :: t)) = none := by
          intro hN
          simp only [numsR] at hN
          cases ha : numL a <;> cases hb : numL b <;> simp_all [callR]
        by_cases h1 : x = kMap
        · by_cases hn : t.length + 3 < 5
          · have : callR (x :: a :: b :: t) = none := by
              match t, hn with
              | [], _ => cases ha : numL a <;> cases hb : numL b <;> simp [callR, h1, ha, hb]
              | [p], _ => cases ha : numL a <;> cases hb : numL b <;> cases hp : permV p <;> simp [callR, h1, ha, hb, hp, polR]
              | p :: p2 :: t, hn => exact absurd hn (by simp only [List.length_cons]; omega)
            rw [this]
            exact rc_def_Map w g off _ c x hc hg h1 (by simp; omega) (by simp)
          · cases hN : numsR [a, b] with
            | none =>
              rw [bad hN]
              exact rc_bad_Map w g off _ c x hc hg h1 (by simp; omega) a1 n1 c1 [a, b] hs1 hq1' hlen a2 n2 c2 hs2 hN
            | some ns =>
              cases ha : numL a with
              | none => simp [numsR, ha] at hN
              | some p =>
                cases hb : numL b with
                | none => simp [numsR, ha, hb] at hN
                | some q2 =>
                  have hN1 : numsR [a, b] = some [p, q2] := by simp [numsR, ha, hb]
                  match t, hn, hq2' with
                  | [], hn, _ => simp at hn
                  | y :: t, hn, hq2' =>
                    obtain ⟨g2, off2, rfl, en2, hy, hg2⟩ := hq2'.cell0
                    have hn5 : 5 ≤ (a :: b :: y :: t).length + 1 := by simp only [List.length_cons] at hn ⊢; omega
                    obtain ⟨a3, n3, c3, hs3, _, hq3⟩ := hq2'.rest (l := 1) (by simp)
                    have hq3' : StrAt w (.slice a3 n3 c3) t := hq3
                    cases hP : permV y with
                    | none =>
                      have : callR (x :: a :: b :: y :: t) = none := by simp [callR, h1, ha, hb, hP]
                      rw [this]
                      cases hQ : polR t with
                      | none => exact rc_noMap w g off _ c x hc hg h1 hn5 a1 n1 c1 [a, b] hs1 hq1' hlen g2 off2 n2 c2 y hs2 hy hg2 (by omega) a3 n3 c3 hs3 t hq3' p q2 hN1 hP hQ
                      | some pk => exact rc_noMapP w g off _ c x hc hg h1 hn5 a1 n1 c1 [a, b] hs1 hq1' hlen g2 off2 n2 c2 y hs2 hy hg2 (by omega) a3 n3 c3 hs3 t hq3' p q2 hN1 hP pk.1 pk.2 hQ
                    | some v =>
                      cases hQ : polR t with
                      | none =>
                        have : callR (x :: a :: b :: y :: t) = none := by simp [callR, h1, ha, hb, hP, hQ]
                        rw [this]
                        exact rc_noMapQ w g off _ c x hc hg h1 hn5 a1 n1 c1 [a, b] hs1 hq1' hlen g2 off2 n2 c2 y hs2 hy hg2 (by omega) a3 n3 c3 hs3 t hq3' p q2 hN1 v hP hQ
                      | some pk =>
                        have : callR (x :: a :: b :: y :: t) = some { c0 with kind := 1, page := (p : Int), pages := (q2 : Int), perm := v, pk := pk.1, pn := pk.2 } := by simp [callR, h1, ha, hb, hP, hQ]
                        rw [this]
                        exact rc_Map w g off _ c x hc hg h1 hn5 a1 n1 c1 [a, b] hs1 hq1' hlen g2 off2 n2 c2 y hs2 hy hg2 (by omega) a3 n3 c3 hs3 t hq3' p q2 hN1 v hP (permV_nonneg hP) pk.1 pk.2 hQ
        · by_cases h2 : x = kUnmap
          · by_cases hn : (a :: b :: t).length + 1 = 3
            · have ht : t = [] := by simpa using hn
              subst ht
              cases hN : numsR [a, b] with
              | none =>
                rw [bad hN]
                exact rc_bad_Unmap w g off _ c x hc hg h2 hn a1 n1 c1 [a, b] hs1 hq1' hlen a2 n2 c2 hs2 hN
              | some ns =>
                cases ha : numL a with
                | none => simp [numsR, ha] at hN
                | some p =>
                  cases hb : numL b with
                  | none => simp [numsR, ha, hb] at hN
                  | some q2 =>
                    have hN1 : numsR [a, b] = some [p, q2] := by simp [numsR, ha, hb]
                    have : callR [x, a, b] = some { c0 with kind := 2, page := (p : Int), pages := (q2 : Int) } := by simp [callR, h2, ha, hb]
                    rw [this]
                    exact rc_Unmap w g off _ c x hc hg h2 hn a1 n1 c1 [a, b] hs1 hq1' hlen a2 n2 c2 hs2 p q2 hN1
            · have : callR (x :: a :: b :: t) = none := by
                have ht : t ≠ [] := by rintro rfl; simp at hn
                cases ha : numL a <;> cases hb : numL b <;> simp [callR, h2, ha, hb, ht]
              rw [this]
              exact rc_def_Unmap w g off _ c x hc hg h2 hn (by simp)
          · by_cases h3 : x = kProtect
            · by_cases hn : (a :: b :: t).length + 1 = 4
              · match t, hn, hq2' with
                | [y], hn, hq2' =>
                  obtain ⟨g2, off2, rfl, en2, hy, hg2⟩ := hq2'.cell0
                  cases hN : numsR [a, b] with
                  | none =>
                    rw [bad hN]
                    exact rc_bad_Protect w g off _ c x hc hg h3 hn a1 n1 c1 [a, b] hs1 hq1' hlen _ n2 c2 hs2 hN
                  | some ns =>
                    cases ha : numL a with
                    | none => simp [numsR, ha] at hN
                    | some p =>
                      cases hb : numL b with
                      | none => simp [numsR, ha, hb] at hN
                      | some q2 =>
                        have hN1 : numsR [a, b] = some [p, q2] := by simp [numsR, ha, hb]
                        cases hP : permV y with
                        | none =>
                          have : callR [x, a, b, y] = none := by simp [callR, h3, ha, hb, hP]
                          rw [this]
                          exact rc_noProtect w g off _ c x hc hg h3 hn a1 n1 c1 [a, b] hs1 hq1' hlen g2 off2 n2 c2 y hs2 hy hg2 (by omega) p q2 hN1 hP
                        | some v =>
                          have : callR [x, a, b, y] = some { c0 with kind := 3, page := (p : Int), pages := (q2 : Int), perm := v } := by simp [callR, h3, ha, hb, hP]
                          rw [this]
                          exact rc_Protect w g off _ c x hc hg h3 hn a1 n1 c1 [a, b] hs1 hq1' hlen g2 off2 n2 c2 y hs2 hy hg2 (by omega) p q2 hN1 v hP (permV_nonneg hP)
              · have : callR (x :: a :: b :: t) = none := by
                  match t, hn with
                  | [], _ => cases ha : numL a <;> cases hb : numL b <;> simp [callR, h3, ha, hb]
                  | y :: z :: t, _ => cases ha : numL a <;> cases hb : numL b <;> simp [callR, h3, ha, hb]
                rw [this]
                exact rc_def_Protect w g off _ c x hc hg h3 hn (by simp)
            · by_cases h4 : x = kBind
              · by_cases hn : t.length + 3 < 4
                · have ht : t = [] := List.length_eq_zero_iff.1 (by omega)
                  subst ht
                  have : callR [x, a, b] = none := by cases ha : numL a <;> cases hb : numL b <;> simp [callR, h4, ha, hb, polR]
                  rw [this]
                  exact rc_def_Bind w g off _ c x hc hg h4 (by simp) (by simp)
                · cases hN : numsR [a, b] with
                  | none =>
                    rw [bad hN]
                    exact rc_bad_Bind w g off _ c x hc hg h4 (by simp; omega) a1 n1 c1 [a, b] hs1 hq1' hlen a2 n2 c2 hs2 hN
                  | some ns =>
                    cases ha : numL a with
                    | none => simp [numsR, ha] at hN
                    | some p =>
                      cases hb : numL b with
                      | none => simp [numsR, ha, hb] at hN
                      | some q2 =>
                        have hN1 : numsR [a, b] = some [p, q2] := by simp [numsR, ha, hb]
                        cases hQ : polR t with
                        | none =>
                          have : callR (x :: a :: b :: t) = none := by simp [callR, h4, ha, hb, hQ]
                          rw [this]
                          exact rc_noBind w g off _ c x hc hg h4 (by simp; omega) a1 n1 c1 [a, b] hs1 hq1' hlen a2 n2 c2 hs2 t hq2' p q2 hN1 hQ
                        | some pk =>
                          have : callR (x :: a :: b :: t) = some { c0 with kind := 4, page := (p : Int), pages := (q2 : Int), pk := pk.1, pn := pk.2 } := by simp [callR, h4, ha, hb, hQ]
                          rw [this]
                          exact rc_Bind w g off _ c x hc hg h4 (by simp; omega) a1 n1 c1 [a, b] hs1 hq1' hlen a2 n2 c2 hs2 t hq2' p q2 hN1 pk.1 pk.2 hQ
              · have : callR (x :: a :: b :: t) = none := by cases ha : numL a <;> cases hb : numL b <;> simp [callR, hL, hS, h1, h2, h3, h4, ha, hb]
                rw [this]
                exact rc_def_other w g off _ c x hc hg hL hS h1 h2 h3 h4 (by simp)
end Go.Proofs.YtccoafacbbkooaaGreatDoor
