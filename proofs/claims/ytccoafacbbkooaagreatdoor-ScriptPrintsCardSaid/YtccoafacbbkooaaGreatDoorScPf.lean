/- Script: ScriptPrints walked. -/
import Derived.Test.YtccoafacbbkooaaGreatDoorScPe
import Derived.Maps.AppendAt
import Derived.Deep.Upon
namespace Go.Proofs.YtccoafacbbkooaaGreatDoor
open Go.RowKit Go.Maps

theorem wpList_append_none {P : Program} {w : World} {ops : Array Oper} {rest : List Oper} {o : Oper} {a : Act} {Q : Exit → Act → World → Prop} (hgd : o.guard = none) (s x : Operand) (t : TypeId)
    (ho : o.op = .call { callee := .builtin .append, args := #[s, x], argTypes := #[t, t] })
    (e : TypeId) (i : TypeInfo) (ht : P.underlying t = some (.slice e)) (hi : P.info? e = some i)
    (b0 : Option Addr) (n c : Nat) (hle : n ≤ c) (hs : a.eval s = .slice b0 n c) (hx : a.eval x = .slice none 0 0)
    (h : wpList P ops Q rest (a.put o.dst (.slice b0 n c)) w) : wpList P ops Q (o :: rest) a w := by
  refine wpList_plain hgd fun K hK => ?_
  have hsrc : Src P i.size t (.slice none 0 0) 0 [] w := Src.ofNil w ht 0
  have hrun := run_append_nothing (P := P) w t t o.type e i ht hi b0 n c hle _ hsrc
  unfold Oper.wp
  simp [execOp, ho, resolve, invoke, builtin, hs, hx, hrun, Result.andThen]
  exact hK _ _ h
/-- The answer of Print, told by its text. -/
theorem printV_form (xs : List Itm) : (∃ k : Int, k ≠ 0 ∧ printV xs = .tuple #[.string { data := #[] }, .int .i64 k]) ∨ ∃ t, catL xs = some t ∧ xs.length ≤ 4096 ∧ t.length ≤ 262144 ∧ printV xs = .tuple #[.string (bs t), .int .i64 0] := by
  unfold printV
  by_cases h : 4096 < xs.length
  · rw [if_pos h]
    exact .inl ⟨3, by decide, rfl⟩
  · rw [if_neg h]
    cases hc : catL xs with
    | none => exact .inl ⟨5, by decide, rfl⟩
    | some t =>
      simp only
      by_cases h2 : 262144 < t.length
      · rw [if_pos h2]
        exact .inl ⟨3, by decide, rfl⟩
      · rw [if_neg h2]
        exact .inr ⟨t, rfl, by omega, by omega, rfl⟩
theorem hb0I (w : World) : (bsl 37 0 #[]).run Tryz.prog w = .ok (.slice (some ⟨w.heap.size, 0, none⟩) 0 0) (w.alloc (.cells #[] 29)) := by kernel_rfl

/-- Behind the copy. -/
theorem own_new (w : World) : (w.alloc (.cells #[] 29)).ownsRow w.heap.size 29 14 (.slice (some ⟨w.heap.size, 0, none⟩) 0 0) 0 [] :=
  ⟨rfl, .inr ⟨w.heap.size, 0, #[], rfl, Nat.le_refl _, Blk.new w 29 #[], Nat.le_refl _, by decide, rfl, rfl⟩⟩
theorem cells_of_items {w : World} {b off : Nat} {l : List Itm} (h : ∀ i a, l[i]? = some a → ∀ j v, a.arr[j]? = some v → w.cell? ⟨b, off + i * 14 + j, none⟩ = some v) : ∀ j u, (flatI l)[j]? = some u → w.cell? ((⟨b, off, none⟩ : Addr).add j) = some u := by
  intro j u hu
  have hj := (List.getElem?_eq_some_iff.1 hu).1
  rw [flatI_len] at hj
  have hi : j / 14 < l.length := by rw [Nat.div_lt_iff_lt_mul (by omega)]; exact hj
  have hr : j % 14 < (l[j / 14]).arr.size := by
    have : (l[j / 14]).arr.size = 14 := rfl
    rw [this]
    exact Nat.mod_lt _ (by omega)
  have h1 := flatI_at l (j / 14) (j % 14) l[j / 14] (l[j / 14]).arr[j % 14] (List.getElem?_eq_getElem hi) (Array.getElem?_eq_getElem hr)
  have e : j / 14 * 14 + j % 14 = j := by omega
  rw [e, hu] at h1
  have h2 := h (j / 14) l[j / 14] (List.getElem?_eq_getElem hi) (j % 14) _ (Array.getElem?_eq_getElem hr)
  rw [add_off]
  rw [Option.some.inj h1, ← h2]
  congr 2
  omega

/-- append([]api.Item{}, l...). -/
theorem wpList_own_copy {w : World} {ops : Array Oper} {rest : List Oper} {o : Oper} {a : Act} {Q : Exit → Act → World → Prop} (hgd : o.guard = none) (s x : Operand)
    (ho : o.op = .call { callee := .builtin .append, args := #[s, x], argTypes := #[37, 37] }) (hs : a.eval s = .slice (some ⟨w.heap.size, 0, none⟩) 0 0)
    (A : Option Addr) (N cap : Nat) (l : List Itm) (hx : a.eval x = .slice A N cap) (hN : l.length = N) (hb : N * 112 ≤ 140737488351232)
    (hcase : (A = none ∧ l = [] ∧ cap = 0) ∨ ∃ ad, A = some ad ∧ (∀ j u, (flatI l)[j]? = some u → (w.alloc (.cells #[] 29)).cell? (ad.add j) = some u))
    (h : ∀ v1 w1, w1.ownsRow w.heap.size 29 14 v1 N (flatI l) → Below w.heap.size w w1 → wpList Tryz.prog ops Q rest (a.put o.dst v1) w1) : wpList Tryz.prog ops Q (o :: rest) a (w.alloc (.cells #[] 29)) := by
  obtain ⟨i1, hi1, hz0, hz1, hz2⟩ := info_parts infoI
  have hB0 : Below w.heap.size w (w.alloc (.cells #[] 29)) := (Below.refl w.heap.size w).alloc (Nat.le_refl _) (.cells #[] 29)
  rcases hcase with ⟨rfl, rfl, rfl⟩ | ⟨ad, rfl, hc⟩
  · subst hN
    exact wpList_append_none hgd s x 37 ho 29 i1 Tryz.underlying37 hi1 _ 0 0 (Nat.le_refl _) hs hx (h _ _ (own_new w) hB0)
  · refine wpList_append_own_at _ hgd s x 37 ho w.heap.size 29 i1 _ 14 112 Tryz.underlying37 hi1 hz0 hz1 hz2 rfl (by decide) _ 0 [] hs (own_new w) ad N cap (flatI l) hx (by rw [flatI_len, hN]) hc (flatI_one l) (by unfold maxLen; omega) (by omega) hB0.size ?_
    intro v1 w1 own1 gr1 _ _
    rw [Nat.zero_add, List.nil_append] at own1
    exact h v1 w1 own1 (below_grown hB0 (Nat.le_refl _) gr1 (own_base (own_new w)))

set_option maxRecDepth 100000 in
set_option maxHeartbeats 4000000 in
theorem prints_w (w : World) (A : Option Addr) (cap : Nat) (l : List Itm) (hA : ItemsAt w A l) (hW : ∀ x ∈ l, Wide x) (hnil : A = none → l = [] ∧ cap = 0) (ht : Tab w) (hm : MaxAt w) :
    Calls Tryz.prog 4 #[.slice A l.length cap] w fun e w' => e = .returned (.bool true) ∧ Below w.heap.size w w' := by
  have h112 := hA.1
  have hpr := fun (W : World) (B : Option Addr) (c : Nat) (hb : Below w.heap.size w W) (hI : ItemsAt W B l) => print_w W B c l hI hW (ht.below hb) (hm.below hb)
  have hpq := fun (W : World) (B : Option Addr) (c : Nat) (hI : ItemsAt W B l) => print_r W B c l hI hW
  have hsm := fun (W : World) (B C : Option Addr) (c d : Nat) (h1 : ItemsAt W B l) (h2 : ItemsAt W C l) => same_w W B C c d l h1 h2
  have hpa := fun (W : World) (t : Wd) (hc : catL l = some t) (h1 : l.length ≤ 4096) (h2 : t.length ≤ 262144) (hM : MaxAt W) => parse_w W l t hc hW h1 h2 hM
  have hcase : (A = none ∧ l = [] ∧ cap = 0) ∨ ∃ ad, A = some ad ∧ (∀ j u, (flatI l)[j]? = some u → (w.alloc (.cells #[] 29)).cell? (ad.add j) = some u) := by
    cases hAA : A with
    | none => exact .inl ⟨rfl, hnil hAA⟩
    | some a =>
      refine .inr ⟨a, rfl, ?_⟩
      by_cases h0 : 0 < l.length
      · obtain ⟨b', off', e, hlt, hc⟩ := (hA.below ((Below.refl _ _).alloc (Nat.le_refl _) (.cells #[] 29))).2 h0
        rw [hAA] at e
        have e := Option.some.inj e
        subst e
        exact cells_of_items hc
      · have : l = [] := List.length_eq_zero_iff.1 (by omega)
        subst this
        intro j u hu
        simp [flatI] at hu
  obtain ⟨N, hN⟩ : ∃ N, l.length = N := ⟨_, rfl⟩
  simp only [hN] at hpr hpq hsm hpa
  rw [hN] at h112 ⊢
  have HCP := Lib.hid hcase
  have HPR := Lib.hid hpr
  have HPQ := Lib.hid hpq
  have HSM := Lib.hid hsm
  have HPA := Lib.hid hpa
  have HA := Lib.hid hA
  have HM := Lib.hid hm
  have HN := Lib.hid hN
  have hb0 := hb0I
  have h112' : l.length * 112 ≤ 140737488351232 := by omega
  have HLN := Lib.hid h112'
  clear hpr hpq hsm hpa hA hm hN ht hW hnil hcase h112'
  rcases printV_form l with ⟨k, hk, hpv⟩ | ⟨t, hct, hl1, hl2, hpv⟩
  · have hk' : (k == 0) = false := by simpa using hk
    rw [hpv] at HPR HPQ
    clear hpv
    go_enter Tryz.func4, Tryz.ntmps4
    go_wp2_with (first
      | (at_builtin; refine wpList_own_copy rfl _ _ rfl rfl A N cap l rfl HN.out h112 HCP.out ?_; intro v1 w1 own1 B1; obtain ⟨A1, c1, rfl, I1⟩ := items_of_own own1 HN.out.symm HLN.out; have HI1 := Lib.hid I1; have HB1 := Lib.hid B1; clear own1 I1 B1)
      | (go_at_call 9; refine (HPR.out _ _ _ HB1.out HI1.out).mono ?_; rintro e w2 ⟨rfl, B⟩; have HI2 := Lib.hid (HI1.out.below B); have HB2 := Lib.hid (HB1.out.trans (B.mono HB1.out.size)); clear B)
      | (go_at_call 10; refine (HPQ.out _ _ _ (HA.out.below HB2.out)).mono ?_; rintro e w3 ⟨rfl, B⟩; have HI3 := Lib.hid (HI2.out.below B); have HB3 := Lib.hid (HB2.out.trans (B.mono HB2.out.size)); clear B)
      | (go_at_call 11; refine (HSM.out _ _ _ _ _ HI3.out (HA.out.below HB3.out)).mono ?_; rintro e w4 ⟨rfl, B⟩; have HB4 := Lib.hid (HB3.out.trans (B.mono HB3.out.size)); clear B)
      | (go_at_call 7; refine (awake_w _ (HM.out.below HB4.out)).mono ?_; rintro e w5 ⟨rfl, B⟩))
    go_ret
    exact ⟨rfl, HB4.out.trans (B.mono HB4.out.size)⟩
  · have hl1' : N ≤ 4096 := by rw [← HN.out]; exact hl1
    have hpa2 := fun (W : World) (hM : MaxAt W) => HPA.out W t hct hl1' hl2 hM
    obtain ⟨s, hs⟩ : ∃ s, bs t = s := ⟨_, rfl⟩
    rw [hs] at hpv
    simp only [hs] at hpa2
    rw [hpv] at HPR HPQ
    have HPA2 := Lib.hid hpa2
    clear hpv hpa2 hs hct HPA
    go_enter Tryz.func4, Tryz.ntmps4
    go_wp2_with (first
      | (at_builtin; refine wpList_own_copy rfl _ _ rfl rfl A N cap l rfl HN.out h112 HCP.out ?_; intro v1 w1 own1 B1; obtain ⟨A1, c1, rfl, I1⟩ := items_of_own own1 HN.out.symm HLN.out; have HI1 := Lib.hid I1; have HB1 := Lib.hid B1; clear own1 I1 B1)
      | (go_at_call 9; refine (HPR.out _ _ _ HB1.out HI1.out).mono ?_; rintro e w2 ⟨rfl, B⟩; have HI2 := Lib.hid (HI1.out.below B); have HB2 := Lib.hid (HB1.out.trans (B.mono HB1.out.size)); clear B)
      | (go_at_call 10; refine (HPQ.out _ _ _ (HA.out.below HB2.out)).mono ?_; rintro e w3 ⟨rfl, B⟩; have HI3 := Lib.hid (HI2.out.below B); have HB3 := Lib.hid (HB2.out.trans (B.mono HB2.out.size)); clear B)
      | (go_at_call 12; refine (HPA2.out _ (HM.out.below HB4.out)).mono ?_; rintro e w5 ⟨⟨A5, c5, rfl, I5⟩, B⟩; have HI5 := Lib.hid I5; have HB5 := Lib.hid (HB4.out.trans (B.mono HB4.out.size)); clear B I5)
      | (go_at_call 11; refine (HSM.out _ _ _ _ _ HI3.out (HA.out.below HB3.out)).mono ?_; rintro e w4 ⟨rfl, B⟩; have HB4 := Lib.hid (HB3.out.trans (B.mono HB3.out.size)); clear B HI3)
      | (go_at_call 11; refine (HSM.out _ _ _ _ _ HI5.out (HA.out.below HB5.out)).mono ?_; rintro e w6 ⟨rfl, B⟩; have HB6 := Lib.hid (HB5.out.trans (B.mono HB5.out.size)); clear B)
      | (go_at_call 7; refine (awake_w _ (HM.out.below HB6.out)).mono ?_; rintro e w7 ⟨rfl, B⟩))
    go_ret
    exact ⟨rfl, HB6.out.trans (B.mono HB6.out.size)⟩
end Go.Proofs.YtccoafacbbkooaaGreatDoor
