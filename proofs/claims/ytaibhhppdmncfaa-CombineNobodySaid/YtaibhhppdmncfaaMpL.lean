/- Maps keyed by int, whatever their elements: a map as a function; look-up, store, delete. For every seat. -/
import Derived.Test.YtaibhhppdmncfaaL0
import Derived.Maps.OwnSet
import Derived.Maps.OwnIn
namespace Go.Proofs.Ytaibhhppdmncfaa
open Go.RowKit Go.Maps

/-- An element reads as itself. -/
def selfElem (v : Value) : Option (DataW Value × List MemPlace) := some (.held v, [])
theorem selfElem_inv {v : Value} {d : DataW Value} {ps : List MemPlace} (h : selfElem v = some (d, ps)) : d = .held v ∧ ps = [] := by
  unfold selfElem at h
  cases h
  exact ⟨rfl, rfl⟩
/-- Block m is a map that holds just what g tells, its keys below 64. -/
def MapAt (P : Program) (k : TypeId) (w : World) (m : Nat) (g : Nat → Option Value) : Prop :=
  ∃ (D : DataW Value) (n : Nat), w.ownsMap P k selfElem m n D ∧ n = (List.range 64).countP (fun i => (g i).isSome) ∧ (∀ i, 64 ≤ i → g i = none) ∧
    (∀ (i : Int), i < 0 → Maps.has D (.int .i64 i) = false) ∧
    ∀ (i : Nat), Maps.has D (.int .i64 i) = (g i).isSome ∧ ∀ zd, D.atKey (.int .i64 i) zd = match g i with | some v => .held v | none => zd
theorem MapAt.lt {P : Program} {k : TypeId} {w : World} {m : Nat} {g : Nat → Option Value} (h : MapAt P k w m g) : m < w.heap.size := by
  obtain ⟨D, n, h, _⟩ := h
  exact h.lt
theorem MapAt.same {P : Program} {k : TypeId} {w w' : World} {m : Nat} {g : Nat → Option Value} (h : MapAt P k w m g) (hw : w'.heap[m]? = w.heap[m]?) : MapAt P k w' m g := by
  obtain ⟨D, n, ⟨es, clock, hb, rest⟩, h2⟩ := h
  exact ⟨D, n, ⟨es, clock, hw.trans hb, rest⟩, h2⟩
theorem MapAt.only {P : Program} {k : TypeId} {w w' : World} {m : Nat} {g : Nat → Option Value} {S : Nat → Prop} (h : MapAt P k w m g) (ho : Only S w w') (hS : ¬ S m) : MapAt P k w' m g :=
  h.same (ho.block m h.lt hS)
theorem MapAt.below {P : Program} {k : TypeId} {w w' : World} {m B : Nat} {g : Nat → Option Value} (h : MapAt P k w m g) (hb : Below B w w') (hm : m < B) : MapAt P k w' m g := h.same (hb.block m hm)
theorem MapAt.drew {P : Program} {k : TypeId} {w : World} {m : Nat} {g : Nat → Option Value} (h : MapAt P k w m g) : MapAt P k w.drew m g := h
theorem MapAt.no_blk {P : Program} {k : TypeId} {w : World} {m b : Nat} {g : Nat → Option Value} {t : TypeId} {cs : Array Value} (h : MapAt P k w m g) (hb : Blk w b t cs) : m ≠ b := by
  rintro rfl
  obtain ⟨D, n, ⟨es, clock, h1, _⟩, _⟩ := h
  unfold Blk at hb
  rw [h1] at hb
  cases hb

theorem mapAt_made (P : Program) (k : TypeId) (w : World) : MapAt P k (w.alloc (.map #[] 0)) w.heap.size (fun _ => none) := by
  refine ⟨_, 0, World.ownsMap_made w P k selfElem, by simp, fun _ _ => rfl, fun _ _ => rfl, fun i => ⟨rfl, fun zd => rfl⟩⟩

theorem countP_put (i : Nat) (p : Nat → Bool) : ∀ l : List Nat, l.Nodup → i ∈ l → l.countP (fun j => if j = i then true else p j) = l.countP p + if p i then 0 else 1
  | [], _, h => by cases h
  | x :: l, nd, h => by
    have nd' := List.nodup_cons.1 nd
    rw [List.countP_cons, List.countP_cons]
    by_cases hx : x = i
    · subst hx
      have e : l.countP (fun j => if j = x then true else p j) = l.countP p := by
        refine List.countP_congr (fun j hj => ?_)
        have : j ≠ x := fun e => nd'.1 (e ▸ hj)
        simp [this]
      rw [e]
      cases p x <;> simp
    · have hi : i ∈ l := by
        rcases List.mem_cons.1 h with h | h
        · exact absurd h.symm hx
        · exact h
      rw [countP_put i p l nd'.2 hi]
      simp only [if_neg hx]
      omega
theorem countP_del (i : Nat) (p : Nat → Bool) : ∀ l : List Nat, l.Nodup → i ∈ l → l.countP (fun j => if j = i then false else p j) + (if p i then 1 else 0) = l.countP p
  | [], _, h => by cases h
  | x :: l, nd, h => by
    have nd' := List.nodup_cons.1 nd
    rw [List.countP_cons, List.countP_cons]
    by_cases hx : x = i
    · subst hx
      have e : l.countP (fun j => if j = x then false else p j) = l.countP p := by
        refine List.countP_congr (fun j hj => ?_)
        have : j ≠ x := fun e => nd'.1 (e ▸ hj)
        simp [this]
      rw [e]
      cases p x <;> simp
    · have hi : i ∈ l := by
        rcases List.mem_cons.1 h with h | h
        · exact absurd h.symm hx
        · exact h
      have := countP_del i p l nd'.2 hi
      simp only [if_neg hx]
      omega

section
variable {P : Program} {k t e : TypeId} {w : World} {m : Nat} {g : Nat → Option Value}
theorem key_wf {i : Int} (h1 : -9223372036854775808 ≤ i) (h2 : i ≤ 9223372036854775807) : (Lit.int .i64 i).wf = true := WalkArith.wf_i64 (by omega)

theorem MapAt.look (h : MapAt P k w m g) (hk : P.underlying k = some (.int .i64)) (ht : P.underlying t = some (.map k e)) {z : Value} (hz : (zeroValue e).run P w = .ok z w) (i : Nat) (hi : i ≤ 9223372036854775807) :
    (Instr.lookup t (.map (some m)) (.int .i64 (i : Int)) false).run P w = .ok ((g i).getD z) w ∧
    (Instr.lookup t (.map (some m)) (.int .i64 (i : Int)) true).run P w = .ok (.tuple #[(g i).getD z, .bool (g i).isSome]) w := by
  obtain ⟨D, n, h, _, _, _, hg⟩ := h
  have hkey := keyOf_int_mk hk (key_wf (i := (i : Int)) (by omega) (by omega))
  obtain ⟨v, ps, h1, h2⟩ := h.lookup (int_keyed hk) ht hz (zd := .held z) (zp := []) rfl hkey
  obtain ⟨v', ps', h3, h4⟩ := h.look_ok (int_keyed hk) ht hz (zd := .held z) (zp := []) rfl hkey
  have e1 := (selfElem_inv h2).1
  have e2 := (selfElem_inv h4).1
  rw [(hg i).2] at e1 e2
  rw [(hg i).1] at h3
  cases hgi : g i with
  | none =>
    rw [hgi] at e1 e2 h3
    injection e1 with e1
    injection e2 with e2
    subst e1
    subst e2
    exact ⟨h1, h3⟩
  | some u =>
    rw [hgi] at e1 e2 h3
    injection e1 with e1
    injection e2 with e2
    subst e1
    subst e2
    exact ⟨h1, h3⟩
theorem MapAt.look_neg (h : MapAt P k w m g) (hk : P.underlying k = some (.int .i64)) (ht : P.underlying t = some (.map k e)) {z : Value} (hz : (zeroValue e).run P w = .ok z w) (i : Int) (hi : i < 0) (hi2 : -9223372036854775808 ≤ i) :
    (Instr.lookup t (.map (some m)) (.int .i64 i) false).run P w = .ok z w ∧
    (Instr.lookup t (.map (some m)) (.int .i64 i) true).run P w = .ok (.tuple #[z, .bool false]) w := by
  obtain ⟨D, n, h, _, _, hn, hg⟩ := h
  have hkey := keyOf_int_mk hk (key_wf (i := i) (by omega) (by omega))
  obtain ⟨v, ps, h1, h2⟩ := h.lookup (int_keyed hk) ht hz (zd := .held z) (zp := []) rfl hkey
  obtain ⟨v', ps', h3, h4⟩ := h.look_ok (int_keyed hk) ht hz (zd := .held z) (zp := []) rfl hkey
  have e1 := (selfElem_inv h2).1
  have e2 := (selfElem_inv h4).1
  rw [atKey_of_not_has (hn i hi)] at e1 e2
  rw [hn i hi] at h3
  injection e1 with e1
  injection e2 with e2
  subst e1
  subst e2
  exact ⟨h1, h3⟩
theorem lit_ne {i j : Int} (h : i ≠ j) : Lit.int .i64 i ≠ Lit.int .i64 j := fun e => by injection e with _ e; exact h e
theorem MapAt.put (h : MapAt P k w m g) (hk : P.underlying k = some (.int .i64)) (ht : P.underlying t = some (.map k e)) (i : Nat) (hi : i < 64) (v : Value) :
    ∃ w', (Instr.mapUpdate t (.map (some m)) (.int .i64 (i : Int)) v).run P w = .ok () w' ∧ MapAt P k w' m (fun j => if j = i then some v else g j) ∧ w.grownBy w' (some m) := by
  obtain ⟨D, n, h, hn, h64, hneg, hg⟩ := h
  have hkey := keyOf_int_mk hk (key_wf (i := (i : Int)) (by omega) (by omega))
  have hcl : (List.range 64).countP (fun i => (g i).isSome) ≤ 64 := by
    have := List.countP_le_length (p := fun i => (g i).isSome) (l := List.range 64)
    simpa using this
  have hT := h.tidy (int_keyed hk)
  have hsz : Maps.size D = (List.range 64).countP (fun i => (g i).isSome) ∨ Maps.size D ≤ n := .inr h.size_le
  obtain ⟨es, clock, hb, F, hs, hD⟩ := h
  have hsD : Maps.size D = es.size := by rw [hD]; simp [Maps.size, length_sorted]
  have htight : w.ownsMap P k selfElem m es.size D := ⟨es, clock, hb, F, Nat.le_refl _, hD⟩
  obtain ⟨w', hrun, h1, h2⟩ := htight.store (int_keyed hk) ht (n := es.size) (by unfold maxLen; omega) (ps := []) (d := .held v) hkey rfl
  have hlit : WideAt.IsKeyLit (Lit.int .i64 (i : Int)) := trivial
  have hsz' := size_put hT (k := Lit.int .i64 (i : Int)) (.held v)
  obtain ⟨es', clock', hb', F', hs', hD'⟩ := h1
  have hsD' : Maps.size (D.put (.int .i64 (i : Int)) (.held v)) = es'.size := by rw [hD']; simp [Maps.size, length_sorted]
  have hcnt := countP_put i (fun i => (g i).isSome) (List.range 64) List.nodup_range (List.mem_range.2 hi)
  have hfun : (fun j => (if j = i then some v else g j).isSome) = (fun j => if j = i then true else (g j).isSome) := by
    funext j
    by_cases hj : j = i <;> simp [hj]
  refine ⟨w', hrun, ⟨D.put (.int .i64 (i : Int)) (.held v), _, ⟨es', clock', hb', F', ?_, hD'⟩, rfl, fun j hj => ?_, fun j hj => ?_, fun j => ?_⟩, h2.grown⟩
  · rw [hfun, hcnt, ← hsD', hsz', (hg i).1]
    have hle : Maps.size D ≤ n := by rw [hsD]; exact hs
    cases (g i).isSome <;> simp <;> omega
  · show (if j = i then some v else g j) = none
    rw [if_neg (by omega)]; exact h64 j hj
  · rw [has_put_other (lit_ne (by omega))]; exact hneg j hj
  · dsimp only
    by_cases hj : j = i
    · subst hj
      rw [if_pos rfl]
      exact ⟨has_put_same hT.isMap hlit _, fun zd => atKey_put_same hT.isMap hlit _ _⟩
    · rw [if_neg hj]
      have hne : Lit.int .i64 (j : Int) ≠ Lit.int .i64 (i : Int) := lit_ne (by omega)
      exact ⟨by rw [has_put_other hne]; exact (hg j).1, fun zd => by rw [atKey_put_other hne]; exact (hg j).2 zd⟩
theorem MapAt.del (h : MapAt P k w m g) (hk : P.underlying k = some (.int .i64)) (ht : P.underlying t = some (.map k e)) (i : Nat) (hi : i < 64) (ty : TypeId) :
    ∃ w', (Builtin.delete_ #[t, k] ty #[.map (some m), .int .i64 (i : Int)]).run P w = .ok (.tuple #[]) w' ∧ MapAt P k w' m (fun j => if j = i then none else g j) ∧ w.grownBy w' (some m) := by
  obtain ⟨D, n, h, hn, h64, hneg, hg⟩ := h
  have hkey := keyOf_int_mk hk (key_wf (i := (i : Int)) (by omega) (by omega))
  have hT := h.tidy (int_keyed hk)
  have hle := h.size_le
  obtain ⟨w', hrun, h1, h2⟩ := h.drop (int_keyed hk) ht hkey ty
  have hsz' := size_del hT (k := Lit.int .i64 (i : Int))
  obtain ⟨es', clock', hb', F', hs', hD'⟩ := h1
  have hsD' : Maps.size (D.del (.int .i64 (i : Int))) = es'.size := by rw [hD']; simp [Maps.size, length_sorted]
  have hfun : (fun j => (if j = i then none else g j).isSome) = (fun j => if j = i then false else (g j).isSome) := by
    funext j
    by_cases hj : j = i <;> simp [hj]
  refine ⟨w', hrun, ⟨D.del (.int .i64 (i : Int)), _, ⟨es', clock', hb', F', ?_, hD'⟩, rfl, fun j hj => ?_, fun j hj => ?_, fun j => ?_⟩, h2.grown⟩
  · rw [hfun, ← hsD']
    have hcnt : (List.range 64).countP (fun j => if j = i then false else (g j).isSome) + (if (g i).isSome then 1 else 0) = (List.range 64).countP (fun i => (g i).isSome) := countP_del i (fun i => (g i).isSome) (List.range 64) List.nodup_range (List.mem_range.2 hi)
    generalize (List.range 64).countP (fun j => if j = i then false else (g j).isSome) = c1 at hcnt ⊢
    rw [(hg i).1] at hsz'
    cases hgi : (g i).isSome
    · rw [hgi] at hsz' hcnt
      simp only [Bool.false_eq_true, if_false] at hsz' hcnt
      omega
    · rw [hgi] at hsz' hcnt
      simp only [if_true] at hsz' hcnt
      omega
  · show (if j = i then none else g j) = none
    split
    · rfl
    · exact h64 j hj
  · rw [has_del_other (lit_ne (by omega))]; exact hneg j hj
  · dsimp only
    by_cases hj : j = i
    · subst hj
      rw [if_pos rfl]
      exact ⟨has_del_same, fun zd => atKey_del_same zd⟩
    · rw [if_neg hj]
      have hne : Lit.int .i64 (j : Int) ≠ Lit.int .i64 (i : Int) := lit_ne (by omega)
      exact ⟨by rw [has_del_other hne]; exact (hg j).1, fun zd => by rw [atKey_del_other hne]; exact (hg j).2 zd⟩
end

section
variable {P : Program} {k t e : TypeId} {w : World} {m : Nat} {g : Nat → Option Value} {ops : Array Oper} {rest : List Oper} {o : Oper} {a : Act} {Q : Exit → Act → World → Prop} {F : Fence} {nF : Nat}
theorem wpList_mapPut (hg : o.guard = none) (mo x vo : Operand) (t : TypeId) (hop : o.op = Op.mapUpdate t mo x vo) (k e : TypeId) (hk : P.underlying k = some (.int .i64)) (ht : P.underlying t = some (.map k e)) (m : Nat) (g : Nat → Option Value)
    (hm : a.eval mo = .map (some m)) (h : MapAt P k w m g) (i : Nat) (v : Value) (hx : a.eval x = .int .i64 (i : Int)) (hv : a.eval vo = v) (hi : i < 64)
    (hK : ∀ w', MapAt P k w' m (fun j => if j = i then some v else g j) → w.grownBy w' (some m) → wpList P ops Q rest (a.put o.dst undef) w') : wpList P ops Q (o :: rest) a w := by
  refine wpList_plain hg fun K' hK' => ?_
  obtain ⟨w', hrun, r1, r2⟩ := h.put hk ht i hi v
  unfold Oper.wp
  simp [execOp, hop, hm, hx, hv, hrun, Result.andThen]
  exact hK' _ _ (hK w' r1 r2)
theorem wpListIn_mapPut (hg : o.guard = none) (mo x vo : Operand) (t : TypeId) (hop : o.op = Op.mapUpdate t mo x vo) (k e : TypeId) (hk : P.underlying k = some (.int .i64)) (ht : P.underlying t = some (.map k e)) (m : Nat) (g : Nat → Option Value)
    (hm : a.eval mo = .map (some m)) (h : MapAt P k w m g) (i : Nat) (v : Value) (hx : a.eval x = .int .i64 (i : Int)) (hv : a.eval vo = v) (hi : i < 64)
    (hK : ∀ w', MapAt P k w' m (fun j => if j = i then some v else g j) → w.grownBy w' (some m) → wpListIn F nF P ops Q rest (a.put o.dst undef) w') : wpListIn F nF P ops Q (o :: rest) a w := by
  refine wpListIn_plain hg fun K' hK' => ?_
  obtain ⟨w', hrun, r1, r2⟩ := h.put hk ht i hi v
  unfold Oper.wpIn
  refine ⟨by simp [Oper.about, hop], ?_⟩
  rw [Oper.semAt_plain F _ _ (by rw [hop]; intro c hc'; cases hc')]
  simp [execOp, hop, hm, hx, hv, hrun, Result.andThen]
  exact hK' _ _ (hK w' r1 r2)
theorem wpList_mapDel (hg : o.guard = none) (mo x : Operand) (t k : TypeId) (hop : o.op = Op.call { callee := Callee.builtin Builtin.delete, args := #[mo, x], argTypes := #[t, k] }) (e : TypeId) (hk : P.underlying k = some (.int .i64)) (ht : P.underlying t = some (.map k e)) (m : Nat) (g : Nat → Option Value)
    (hm : a.eval mo = .map (some m)) (h : MapAt P k w m g) (i : Nat) (hx : a.eval x = .int .i64 (i : Int)) (hi : i < 64)
    (hK : ∀ w', MapAt P k w' m (fun j => if j = i then none else g j) → w.grownBy w' (some m) → wpList P ops Q rest (a.put o.dst (.tuple #[])) w') : wpList P ops Q (o :: rest) a w := by
  refine wpList_plain hg fun K' hK' => ?_
  obtain ⟨w', hrun, r1, r2⟩ := h.del hk ht i hi o.type
  unfold Oper.wp
  simp [execOp, hop, resolve, invoke, builtin, hm, hx, hrun, Result.andThen]
  exact hK' _ _ (hK w' r1 r2)
end
end Go.Proofs.Ytaibhhppdmncfaa
