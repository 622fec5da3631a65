/- Combine: the reference's Done. -/
import Derived.Test.YtaibhhppdmncfaaCbJ
import Derived.Deep.Upon
namespace Go.Proofs.Ytaibhhppdmncfaa
open Go.RowKit Go.Maps

theorem wpList_append_nothing {P : Program} {w : World} {ops : Array Oper} {rest : List Oper} {o : Oper} {a : Act} {Q : Exit → Act → World → Prop} (hgd : o.guard = none) (s x : Operand) (t : TypeId)
    (ho : o.op = .call { callee := .builtin .append, args := #[s, x], argTypes := #[t, t] })
    (e : TypeId) (i : TypeInfo) (ht : P.underlying t = some (.slice e)) (hi : P.info? e = some i)
    (b0 : Option Addr) (n c : Nat) (hle : n ≤ c) (hs : a.eval s = .slice b0 n c) (ad : Addr) (c' : Nat) (hx : a.eval x = .slice (some ad) 0 c')
    (h : wpList P ops Q rest (a.put o.dst (.slice b0 n c)) w) : wpList P ops Q (o :: rest) a w := by
  refine wpList_plain hgd fun K hK => ?_
  have hsrc : Src P i.size t (.slice (some ad) 0 c') 0 [] w := Src.ofSlice w ht ad 0 c' [] (by simp) (by simp) (by simp)
  have hrun := run_append_nothing (P := P) w t t o.type e i ht hi b0 n c hle _ hsrc
  unfold Oper.wp
  simp [execOp, ho, resolve, invoke, builtin, hs, hx, hrun, Result.andThen]
  exact hK _ _ h

theorem flat_append (a b : List Sl) : flat (a ++ b) = flat a ++ flat b := by simp [flat]
theorem flat_one_cell (l : List Sl) : ∀ u ∈ flat l, u.oneCell' = true := by
  intro u hu
  unfold flat at hu
  obtain ⟨x, _, hx⟩ := List.mem_flatMap.1 hu
  simp only [Sl.cells, List.mem_cons, List.not_mem_nil, or_false] at hx
  rcases hx with rfl | rfl | rfl | rfl | rfl | rfl | rfl | rfl | rfl | rfl | rfl | rfl <;> rfl
theorem news_cells {W : World} {g : Nat} {cur : Array Value} {l A M B : List Sl} (hg : Blk W g 49 cur) (hs : l.length * 12 ≤ cur.size)
    (hext : ∀ a (h : a < l.length), cur.extract (a * 12) (a * 12 + 12) = l[a].cells.toArray) (hl : l = A ++ (M ++ B)) : ∀ j u, (flat M)[j]? = some u → W.cell? ((⟨g, A.length * 12, none⟩ : Addr).add j) = some u := by
  intro j u hu
  have hj := (List.getElem?_eq_some_iff.1 hu).1
  have h1 := take_flat hs hext
  have h2 : (flat l)[A.length * 12 + j]? = some u := by
    rw [hl, flat_append, flat_append, List.getElem?_append_right (by rw [length_flat]; omega), length_flat, Nat.add_sub_cancel_left, List.getElem?_append_left hj]
    exact hu
  have h3 : A.length * 12 + j < l.length * 12 := by
    have := (List.getElem?_eq_some_iff.1 h2).1
    rw [length_flat] at this
    exact this
  rw [← h1, List.getElem?_take_of_lt h3, Array.getElem?_toList] at h2
  have e : (⟨g, A.length * 12, none⟩ : Addr).add j = ⟨g, A.length * 12 + j, none⟩ := by simp [Addr.add]
  rw [e]
  exact (hg.cell _).trans h2
theorem filter_out {l : List Sl} (hs : Srt l) {k : Nat} (hk : k < l.length) {i : Int} (hi : (l[k].core : Int) = i) : l.filter (fun x => !((x.core : Int) == i)) = l.take k ++ l.drop (k + 1) := by
  have e : l = l.take k ++ l[k] :: l.drop (k + 1) := by
    rw [← List.drop_eq_getElem_cons hk, List.take_append_drop]
  have hne : ∀ a (ha : a < l.length), a ≠ k → (!((l[a].core : Int) == i)) = true := fun a ha h => by
    have := srt_ne hs ha hk h
    simp only [Bool.not_eq_true', beq_eq_false_iff_ne]
    omega
  conv => lhs; rw [e]
  rw [List.filter_append, List.filter_cons_of_neg (by simp [hi])]
  congr 1
  · refine List.filter_eq_self.2 (fun x hx => ?_)
    obtain ⟨a, ha, rfl⟩ := List.mem_iff_getElem.1 hx
    rw [List.getElem_take]
    simp only [List.length_take] at ha
    exact hne a (by omega) (by omega)
  · refine List.filter_eq_self.2 (fun x hx => ?_)
    obtain ⟨a, ha, rfl⟩ := List.mem_iff_getElem.1 hx
    rw [List.getElem_drop]
    simp only [List.length_drop] at ha
    exact hne (k + 1 + a) (by omega) (by omega)

theorem hvb0 {v : Value} {b H : Nat} (h : v.ownBlock = (Value.slice none 0 0).ownBlock ∨ v.ownBlock = some H) (hb : b < H) : some b ≠ v.ownBlock := by
  rcases h with h | h
  · rw [h]; simp [Value.ownBlock]
  · rw [h]; intro e; injection e with e; omega
set_option maxRecDepth 100000 in
set_option maxHeartbeats 4000000 in
theorem rDone_at (w : World) (base b : Nat) (v : Value) (s : Cb) (i : Int) (ok : s.ok) (h : RefAt w base b v s) (hbase : base ≤ w.heap.size) : Calls Try.prog 27 #[.pointer (some ⟨b, 0, none⟩), .int .i64 i] w fun r w' =>
    r = .returned (.int .i64 (s.doneE i)) ∧ ∃ v', RefAt w' base b v' (s.done i) ∧ Only (TouchR b v) w w' := by
  have HI := Lib.hid (rIndex_at w base b v s i h ok.len64)
  have HPL := Lib.hid (place_at w base b v s i h ok.len64)
  have HH := Lib.hid h
  have OK := Lib.hid ok
  unfold Cb.doneE
  cases ht : toldAt s.l i with
  | false =>
    have hp : s.done i = s := by unfold Cb.done; rw [ht]; rfl
    have hx : indexV s.l i = .tuple #[.int .i64 0, .bool false] := by
      unfold indexV
      unfold toldAt at ht
      split
      · rename_i x e
        rw [e] at ht
        simp only at ht
        rw [ht]; rfl
      · rfl
    have hi2 := HI.out
    rw [hx] at hi2
    have HP := Lib.hid hp
    have HI2 := Lib.hid hi2
    clear h ok ht hp hx hi2 HI HPL
    simp only [Bool.false_eq_true, if_false]
    go_enter Try.func27, Try.ntmps27
    go_wp2_with (go_at_call 32; refine (HI2.out).mono ?_; rintro r w' ⟨rfl, rfl⟩)
    go_ret
    exact ⟨rfl, v, by rw [HP.out]; exact HH.out, Only.refl _ _⟩
  | true =>
    rcases place_cases s.l i with ⟨_, e2⟩ | ⟨k, hk, e1, hki, e2⟩
    · unfold toldAt at ht; rw [e2] at ht; cases ht
    · have hx : indexV s.l i = .tuple #[.int .i64 s.l[k].index, .bool true] := by
        unfold indexV
        unfold toldAt at ht
        rw [e2] at ht ⊢
        simp only at ht ⊢
        rw [ht]; rfl
      have hi2 := HI.out
      rw [hx] at hi2
      have hp2 := HPL.out
      rw [e1] at hp2
      have HI2 := Lib.hid hi2
      have HP2 := Lib.hid hp2
      have hl' : s.l.filter (fun x => !((x.core : Int) == i)) = s.l.take k ++ s.l.drop (k + 1) := filter_out ok.srt hk hki
      have hp : s.done i = { s with l := s.l.take k ++ s.l.drop (k + 1) } := by unfold Cb.done; rw [ht, hl']; rfl
      have HP := Lib.hid hp
      obtain ⟨⟨q, hb, hq⟩, hv⟩ := h
      have hne := own_blk_ne' hv hb (by decide)
      obtain ⟨g, cap, cur, rfl, hbg, hg, hcap, hmax, hsz, hext⟩ := own_ext hv (by omega)
      have hgb := hne g rfl
      have hlt := hb.lt
      have hlg := hg.lt
      obtain ⟨i0, hi0, hz0, hz1, hz2⟩ := info_parts info49
      obtain ⟨N, hN⟩ : ∃ N, N = s.l.length := ⟨_, rfl⟩
      obtain ⟨M, hM⟩ : ∃ M, M = N - (k + 1) := ⟨_, rfl⟩
      have c3 : w.cell? ⟨b, 3, none⟩ = some (.slice (some ⟨g, 0, none⟩) N cap) := by rw [hN]; exact hb.cell 3
      have f3 : w.frozen? ⟨b, 3, none⟩ = false := hb.frozen 3
      have hkN : k < N := by omega
      have hNc : N ≤ cap := by omega
      have hkc : (k : Int) ≤ (cap : Int) := by omega
      have hkc2 : k ≤ cap := by omega
      have hk1 : k + 1 ≤ N := by omega
      have hk2 : k + 1 ≤ cap := by omega
      have hk64 : N ≤ 64 := by rw [hN]; exact ok.len64
      have hMk : k + M = N - 1 := by omega
      have hs1 : ∀ W, (Instr.slice 40 (.slice (some ⟨g, 0, none⟩) N cap) none (some (.int .i64 (k : Int))) none).run Try.prog W = .ok (.slice (some ⟨g, 0, none⟩) k cap) W := fun W => by
        rw [run_slice_h (P := Try.prog) (w := W) 40 (some ⟨g, 0, none⟩) N cap (by kernel_rfl) .i64 (k : Int) (by omega) (by omega)]
        have hsz : (sizeOf (Try.prog.elem 40)).run Try.prog W = .ok 12 W := by kernel_rfl
        rw [hsz]
        simp [Result.andThen, sliced, Addr.add]
      obtain ⟨off2, hoff2, hs2⟩ : ∃ off2, (M ≠ 0 → off2 = (k + 1) * 12) ∧ ∀ W, (Instr.slice 40 (.slice (some ⟨g, 0, none⟩) N cap) (some (.int .i64 ((k : Int) + 1))) none none).run Try.prog W = .ok (.slice (some ⟨g, off2, none⟩) M (cap - (k + 1))) W := by
        have hsz : ∀ W, (sizeOf (Try.prog.elem 40)).run Try.prog W = .ok 12 W := fun W => by kernel_rfl
        have e1 : ((k : Int) + 1).toNat = k + 1 := by omega
        by_cases hc : cap = k + 1
        · refine ⟨0, fun h => by omega, fun W => ?_⟩
          rw [run_slice_l (P := Try.prog) (w := W) 40 (some ⟨g, 0, none⟩) N cap (by kernel_rfl) .i64 ((k : Int) + 1) (by omega) (by omega), hsz, e1]
          simp [Result.andThen, sliced, hc, hM]
        · refine ⟨(k + 1) * 12, fun _ => rfl, fun W => ?_⟩
          rw [run_slice_l (P := Try.prog) (w := W) 40 (some ⟨g, 0, none⟩) N cap (by kernel_rfl) .i64 ((k : Int) + 1) (by omega) (by omega), hsz, e1]
          simp [Result.andThen, sliced, hc, hM, Addr.add]
      have hl1 : (flat (s.l.take k)).length = k * 12 := by rw [length_flat, List.length_take]; rw [Nat.min_eq_left (by omega)]
      have hl2 : (flat (s.l.drop (k + 1))).length = M * 12 := by rw [length_flat, List.length_drop, ← hN, hM]
      have hl3 : (s.l.take k ++ s.l.drop (k + 1)).length = k + M := by rw [List.length_append, List.length_take, List.length_drop, ← hN, hM, Nat.min_eq_left (by omega)]
      have hn1 : ∀ W, Blk W g 49 cur → ∀ j u, (flat (s.l.take k))[j]? = some u → W.cell? ((⟨g, 0, none⟩ : Addr).add j) = some u := fun W hW j u hu => by
        have := news_cells (A := []) (M := s.l.take k) (B := s.l.drop k) hW (by rw [hsz]; exact Nat.mul_le_mul_right 12 hcap) hext (by simp) j u hu
        simpa using this
      have hn2 : ∀ W, Blk W g 49 cur → ∀ j u, (flat (s.l.drop (k + 1)))[j]? = some u → W.cell? ((⟨g, off2, none⟩ : Addr).add j) = some u := fun W hW j u hu => by
        have hM0 : M ≠ 0 := fun e => by
          have := (List.getElem?_eq_some_iff.1 hu).1
          rw [hl2, e] at this
          omega
        rw [hoff2 hM0]
        have := news_cells (A := s.l.take (k + 1)) (M := s.l.drop (k + 1)) (B := []) hW (by rw [hsz]; exact Nat.mul_le_mul_right 12 hcap) hext (by simp) j u hu
        rw [List.length_take, Nat.min_eq_left (by omega)] at this
        exact this
      have HB := Lib.hid hb
      have HQ := Lib.hid hq
      have HG := Lib.hid hg
      have HL1 := Lib.hid hl1
      have HL2 := Lib.hid hl2
      have HL3 := Lib.hid hl3
      have HN1 := Lib.hid hn1
      have HN2 := Lib.hid hn2
      have hkM : k + M ≤ 64 := by omega
      have HNl := Lib.hid hN
      clear ok ht e1 hki e2 hx hi2 hp2 hl' hp hq hv hb hne hg hcap hsz hext hN hM HI HPL hl1 hl2 hl3 hn1 hn2 hMk hoff2
      simp only [if_true]
      go_enter Try.func27, Try.ntmps27
      go_wp2_with (first
        | (go_at_call 32; refine (HI2.out).mono ?_; rintro r w' ⟨rfl, rfl⟩)
        | (go_at_call 35; refine (HP2.out).mono ?_; rintro r w' ⟨rfl, rfl⟩)
        | (at_builtin; refine wpList_append_own_at _ rfl _ _ 40 rfl base 49 i0 _ 12 88 Try.underlying40 hi0 hz0 hz1 hz2 rfl (by decide) (.slice none 0 0) 0 [] rfl ⟨rfl, .inl ⟨rfl, rfl⟩⟩ ⟨g, 0, none⟩ k cap (flat (s.l.take k)) rfl HL1.out (HN1.out _ HG.out) (flat_one_cell _) (by unfold maxLen; omega) (by omega) hbase ?_; intro v1 w1 own1 gr1 _ at1; have hb1 := HB.out.grown gr1 (by simp [Value.ownBlock]); have hg1 := HG.out.grown gr1 (by simp [Value.ownBlock]); have own1' : w1.ownsRow base 49 12 v1 k (flat (s.l.take k)) := (by simpa using own1); have c31 : w1.cell? ⟨b, 3, none⟩ = some (.slice (some ⟨g, 0, none⟩) N cap) := (by rw [HNl.out]; exact hb1.cell 3); have hsz1 := gr1.size; have GR1 := Lib.hid gr1; have AT1 := Lib.hid at1; have HB1 := Lib.hid hb1; have HG1 := Lib.hid hg1; have OWN1 := Lib.hid own1'; clear own1 own1' gr1 at1 hb1 hg1)
        | (at_builtin; refine wpList_append_own_at _ rfl _ _ 40 rfl base 49 i0 _ 12 88 Try.underlying40 hi0 hz0 hz1 hz2 rfl (by decide) v1 k (flat (s.l.take k)) rfl OWN1.out ⟨g, off2, none⟩ M (cap - (k + 1)) (flat (s.l.drop (k + 1))) rfl HL2.out (HN2.out _ HG1.out) (flat_one_cell _) (by unfold maxLen; omega) (by omega) (by omega) ?_; intro v2 w2 own2 gr2 _ at2; obtain ⟨va2, vc2, rfl⟩ := own_form own2; have hvb : some b ≠ v1.ownBlock := hvb0 AT1.out (by omega); have hb2 := HB1.out.grown gr2 hvb; have f32 : w2.frozen? ⟨b, 3, none⟩ = false := hb2.frozen 3; have c32 := hb2.cell 3; have hlt2 := hb2.lt; have GR2 := Lib.hid gr2; have AT2 := Lib.hid at2; have HB2 := Lib.hid hb2; have OWN2 := Lib.hid own2; clear own2 gr2 at2 hb2 hvb))
      go_ret
      have o1 : Only (TouchR b (.slice (some ⟨g, 0, none⟩) s.l.length cap)) w w1 := (Only.refl _ w).grown GR1.out (fun j hj => by simp [Value.ownBlock] at hj)
      have o2 : Only (TouchR b (.slice (some ⟨g, 0, none⟩) s.l.length cap)) w w2 := o1.grown GR2.out (fun j hj => by
        rcases AT1.out with h | h
        · rw [h] at hj; simp [Value.ownBlock] at hj
        · rw [h] at hj; injection hj with hj; omega)
      have hv2b : ∀ j, (Value.slice va2 (k + M) vc2).ownBlock = some j → j ≠ b := fun j hj e => by
        rcases AT2.out with h | h
        · rw [h] at hj
          rcases AT1.out with h' | h'
          · rw [h'] at hj; simp [Value.ownBlock] at hj
          · rw [h'] at hj; injection hj with hj; omega
        · rw [h] at hj; injection hj with hj; omega
      refine ⟨rfl, ⟨Value.slice va2 (k + M) vc2, ?_⟩, o2.setCell (p := ⟨b, 3, none⟩) (.inl (.inl rfl)) _⟩
      rw [HP.out]
      have o3 : Only (· = b) w2 (w2.setCell ⟨b, 3, none⟩ (.slice va2 (k + M) vc2)) := (Only.refl (· = b) w2).setCell (p := ⟨b, 3, none⟩) (.inl rfl) _
      refine ⟨⟨q, HB2.out.set_ 3 _, ?_⟩, ?_⟩
      · refine (HQ.out.only o2 (fun g0 c0 hc e => ?_)).only o3 (fun g0 c0 hc e => (hc.ne_ HB2.out (by decide)) e)
        rcases e with e | e
        · exact (hc.ne_ HB.out (by decide)) e
        · simp [Value.ownBlock] at e
          subst e
          exact (hc.ne_ HG.out (by decide)) rfl
      · show World.ownsRow _ base 49 12 (.slice va2 (k + M) vc2) (s.l.take k ++ s.l.drop (k + 1)).length (flat (s.l.take k ++ s.l.drop (k + 1)))
        rw [HL3.out, flat_append]
        exact own_only OWN2.out o3 (fun j hj => hv2b j hj)
end Go.Proofs.Ytaibhhppdmncfaa
