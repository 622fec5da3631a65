/- Shoot: Post. -/
import Derived.Test.YtfekllnalacggaaShE
import Derived.Test.YtfekllnalacggaaRsL
import Derived.Deep.AppendSrc
namespace Go.Proofs.Ytfekllnalacggaa
open Go.RowKit
attribute [local go_sem ↓] ld35 st35
attribute [local go_sem] run_ld35 run_st35

/-- An append to a slice that is full, at a step of a region that draws: a new row. -/
theorem step_append_full {P : Program} {w : World} {ops : Array Oper} {o : Oper} {a : Act} {K : Act → World → Prop} {Q : Exit → Act → World → Prop} {E : Prop} (hgd : o.guard = none) (s x : Operand) (t : TypeId)
    (ho : o.op = .call { callee := .builtin .append, args := #[s, x], argTypes := #[t, t] })
    (e : TypeId) (i : TypeInfo) (z : Value) (size bytes : Nat) (ht : P.underlying t = some (.slice e)) (hi : P.info? e = some i) (hz : i.zero = some z)
    (hsize : i.size = size) (hby : i.bytes = bytes) (hzs : z.cells.size = size)
    (ao : Option Addr) (n : Nat) (olds : List Value) (hs : a.eval s = .slice ao n n) (hol : olds.length = n * size) (hold : ∀ ad, ao = some ad → ∀ j v, olds[j]? = some v → w.cell? (ad.add j) = some v) (hnil : ao = none → n = 0)
    (ad : Addr) (m c : Nat) (news : List Value) (hx : a.eval x = .slice (some ad) m c) (hl : news.length = m * size) (hnews : ∀ j u, news[j]? = some u → w.cell? (ad.add j) = some u) (h1 : ∀ u ∈ news, u.oneCell' = true)
    (hm : 0 < m) (h63 : n + m ≤ maxLen) (hbytes : (n + m) * bytes ≤ 140737488355328) (H : Nat) (hH : w.heap.size = H)
    (h : ∀ cap cs, n + m ≤ cap → cs.size = cap * size → (∀ j, j < (olds ++ news).length → cs[j]? = (olds ++ news)[j]?) → K (a.put o.dst (.slice (some ⟨H, 0, none⟩) (n + m) cap)) (w.drew.alloc (.cells cs e))) :
    if Region.wanted o (yielded ops a.tmps) = true then Oper.wp P o a w K Q else E := by
  have hw : Region.wanted o (yielded ops a.tmps) = true := by simp [Region.wanted, hgd]
  rw [if_pos hw]
  subst hH
  have hsrc : Src P i.size t (.slice (some ad) m c) m news w := Src.ofSlice w ht ad m c news (by rw [hsize]; exact hl) hnews h1
  have hfc : (Builtin.firstCells i.size n (.slice ao n n)).run P w.drew = .ok olds.toArray w.drew := by
    cases ao with
    | none =>
      have h0 := hnil rfl
      subst h0
      have : olds = [] := List.eq_nil_of_length_eq_zero (by rw [hol]; omega)
      rw [this]
      exact run_firstCells_none w.drew i.size 0 0 0
    | some ad' => exact run_firstCells_some w.drew i.size n ad' n n olds (by rw [hsize]; exact hol) (fun j v hj => hold ad' rfl j v hj)
  have hr := run_append_grow_src (P := P) w t t o.type e i z ht hi hz ao n n olds hfc (.slice (some ad) m c) m news hsrc (by omega) (by simp only [maxLen] at h63; omega) (growslice_fits (by omega) (by rw [hby]; exact hbytes))
  unfold Oper.wp execOp
  simp only [ho, resolve, invoke, builtin, Sem.run_bind, Sem.run_pure, Result.andThen_ok, List.map_toArray, List.map_cons, List.map_nil, hs, hx, hr]
  have hge := grownCap_ge w (n + m) n e
  refine h _ _ hge ?_ ?_
  · rw [Array.size_append, List.size_toArray, List.length_append, hol, hl, size_zeroCells, hzs, ← Nat.add_mul, ← Nat.add_mul]
    congr 1
    omega
  · intro j hj
    rw [Array.getElem?_append_left (by simpa using hj), List.getElem?_toArray]

theorem wp_append_full {P : Program} {w : World} {o : Oper} {a : Act} {K : Act → World → Prop} {Q : Exit → Act → World → Prop} (hgd : o.guard = none) (s x : Operand) (t : TypeId)
    (ho : o.op = .call { callee := .builtin .append, args := #[s, x], argTypes := #[t, t] })
    (e : TypeId) (i : TypeInfo) (z : Value) (size bytes : Nat) (ht : P.underlying t = some (.slice e)) (hi : P.info? e = some i) (hz : i.zero = some z)
    (hsize : i.size = size) (hby : i.bytes = bytes) (hzs : z.cells.size = size)
    (ao : Option Addr) (n : Nat) (olds : List Value) (hs : a.eval s = .slice ao n n) (hol : olds.length = n * size) (hold : ∀ ad, ao = some ad → ∀ j v, olds[j]? = some v → w.cell? (ad.add j) = some v) (hnil : ao = none → n = 0)
    (ad : Addr) (m c : Nat) (news : List Value) (hx : a.eval x = .slice (some ad) m c) (hl : news.length = m * size) (hnews : ∀ j u, news[j]? = some u → w.cell? (ad.add j) = some u) (h1 : ∀ u ∈ news, u.oneCell' = true)
    (hm : 0 < m) (h63 : n + m ≤ maxLen) (hbytes : (n + m) * bytes ≤ 140737488355328) (H : Nat) (hH : w.heap.size = H)
    (h : ∀ cap cs, n + m ≤ cap → cs.size = cap * size → (∀ j, j < (olds ++ news).length → cs[j]? = (olds ++ news)[j]?) → K (a.put o.dst (.slice (some ⟨H, 0, none⟩) (n + m) cap)) (w.drew.alloc (.cells cs e))) : Oper.wp P o a w K Q := by
  have hw : Region.wanted o (yielded #[] a.tmps) = true := by simp [Region.wanted, hgd]
  have := step_append_full (ops := #[]) (K := K) (Q := Q) (E := True) hgd s x t ho e i z size bytes ht hi hz hsize hby hzs ao n olds hs hol hold hnil ad m c news hx hl hnews h1 hm h63 hbytes H hH h
  rwa [if_pos hw] at this

theorem info61 : (Try.prog.info? 61).map (fun i => (i.zero, i.size, i.bytes)) = some (some (.agg #[.int .i64 0, .int .i64 0, .int .i64 0]), 3, 24) := by kernel_rfl

/-! ### Post -/
theorem post_nil (w : World) (f t : Int) : Calls Try.prog 15 #[.pointer none, .int .i64 f, .int .i64 t] w fun r w' => r = .returned (.tuple #[.int .i64 0, .int .i64 1]) ∧ w = w' := by
  go_enter Try.func15, Try.ntmps15
  go_wp2
  go_ret2
  exact ⟨rfl, rfl⟩
theorem post_none (w : World) (b c : Nat) (a : Option Addr) (y : Value) (f t : Int) (h : Blk w b 46 #[.slice a 0 c, y]) : Calls Try.prog 15 #[.pointer (some ⟨b, 0, none⟩), .int .i64 f, .int .i64 t] w fun r w' => r = .returned (.tuple #[.int .i64 0, .int .i64 1]) ∧ w = w' := by
  have c0 : w.cell? ⟨b, 0, none⟩ = some (.slice a 0 c) := h.cell 0
  clear h
  go_enter Try.func15, Try.ntmps15
  go_wp2
  go_ret2
  exact ⟨rfl, rfl⟩
theorem post_no (w : World) (b n c : Nat) (a : Option Addr) (y : Value) (f t : Int) (hn : 1 ≤ n) (h : Blk w b 46 #[.slice a n c, y]) (hc : ¬ Sh.can f t) : Calls Try.prog 15 #[.pointer (some ⟨b, 0, none⟩), .int .i64 f, .int .i64 t] w fun r w' => r = .returned (.tuple #[.int .i64 0, .int .i64 1]) ∧ w = w' := by
  have c0 : w.cell? ⟨b, 0, none⟩ = some (.slice a n c) := h.cell 0
  have hz : ((n : Int) == 0) = false := by simp; omega
  clear h
  unfold Sh.can at hc
  by_cases h1 : f < 0
  · clear hc
    go_enter Try.func15, Try.ntmps15
    go_wp2
    go_ret2
    exact ⟨rfl, rfl⟩
  · have h1' : decide (f < 0) = false := by simpa using h1
    by_cases h2 : t ≤ f
    · clear hc h1
      go_enter Try.func15, Try.ntmps15
      go_wp2
      go_ret2
      exact ⟨rfl, rfl⟩
    · have h2' : decide (t ≤ f) = false := by simpa using h2
      have h3 : 4096 < t := by omega
      clear hc h1 h2
      go_enter Try.func15, Try.ntmps15
      go_wp2
      go_ret2
      exact ⟨rfl, rfl⟩

/-- What is in a queue, as one list. -/
theorem QAt.olds {w : World} {q : Value} {l : List Req} {k : Nat} (h : QAt w q l k) : ∃ (a : Option Addr) (c : Nat) (olds : List Value), q = .slice a (l.length - k) c ∧ l.length - k ≤ c ∧ olds.length = (l.length - k) * 3 ∧ (a = none → l.length - k = 0) ∧
    (a = none ∨ ∃ g off, a = some ⟨g, off, none⟩ ∧ g < w.heap.size) ∧ (∀ ad, a = some ad → ad.block < w.heap.size ∧ ∀ j v, olds[j]? = some v → w.cell? (ad.add j) = some v) ∧
    ∀ j x, l[j]? = some x → k ≤ j → ∀ u, u < 3 → olds[(j - k) * 3 + u]? = (askC (j + 1) x)[u]? := by
  obtain ⟨a, c, h1, h2, h3⟩ := h
  rcases h3 with ⟨rfl, hk⟩ | ⟨g, off, cur, rfl, hg, hfit, hx⟩
  · refine ⟨none, c, [], h1, h2, (by simp; omega), fun _ => by omega, .inl rfl, fun _ h => (by cases h), fun j x hj hkj u hu => ?_⟩
    have := (List.getElem?_eq_some_iff.1 hj).1
    omega
  · refine ⟨_, c, (cur.extract off (off + (l.length - k) * 3)).toList, h1, h2, (by simp; omega), fun h => (by cases h), .inr ⟨g, off, rfl, hg.lt⟩, fun ad h => ?_, fun j x hj hkj u hu => ?_⟩
    · cases h
      refine ⟨hg.lt, fun j v hj => ?_⟩
      rw [add_off, hg.cell]
      have hj' : (cur.extract off (off + (l.length - k) * 3))[j]? = some v := by rwa [Array.getElem?_toList] at hj
      rw [Array.getElem?_extract] at hj'
      split at hj'
      · exact hj'
      · cases hj'
    · have hjl := (List.getElem?_eq_some_iff.1 hj).1
      have h5 := hx j x hj hkj u hu
      rw [← h5, Array.getElem?_toList, Array.getElem?_extract, if_pos (by omega)]
      congr 1
      omega
/-- The queue behind an append. -/
theorem QAt.appended {w : World} {H cap : Nat} {l : List Req} {k : Nat} {x : Req} {olds : List Value} {cs : Array Value} (hk : k ≤ l.length) (hB : Blk w H 61 cs) (hcap : l.length - k + 1 ≤ cap) (hsz : cs.size = cap * 3) (hol : olds.length = (l.length - k) * 3)
    (hcs : ∀ j, j < (olds ++ askC (l.length + 1) x).length → cs[j]? = (olds ++ askC (l.length + 1) x)[j]?) (ho : ∀ j y, l[j]? = some y → k ≤ j → ∀ u, u < 3 → olds[(j - k) * 3 + u]? = (askC (j + 1) y)[u]?) :
    QAt w (.slice (some ⟨H, 0, none⟩) (l.length - k + 1) cap) (l ++ [x]) k := by
  have e1 : (l ++ [x]).length - k = l.length - k + 1 := by simp; omega
  have e2 : (olds ++ askC (l.length + 1) x).length = (l.length - k + 1) * 3 := by rw [List.length_append, hol]; simp [askC]; omega
  refine ⟨_, cap, by rw [e1], by rw [e1]; exact hcap, .inr ⟨H, 0, cs, rfl, hB, ?_, fun j y hj hkj u hu => ?_⟩⟩
  · rw [e1, hsz]; omega
  · have hjl : j < (l ++ [x]).length := (List.getElem?_eq_some_iff.1 hj).1
    have hjl' : j < l.length + 1 := by simpa using hjl
    rw [Nat.zero_add, hcs _ (by rw [e2]; omega)]
    by_cases hjj : j < l.length
    · rw [List.getElem?_append_left hjj] at hj
      rw [List.getElem?_append_left (by rw [hol]; omega)]
      exact ho j y hj hkj u hu
    · obtain rfl : j = l.length := by omega
      rw [List.getElem?_append_right (by omega), Nat.sub_self] at hj
      simp only [List.getElem?_cons_zero, Option.some.injEq] at hj
      subst hj
      rw [List.getElem?_append_right (by rw [hol]; omega), hol]
      congr 1
      omega
end Go.Proofs.Ytfekllnalacggaa
