/- Tlb: how one lies in memory; keep. -/
import Derived.Test.YtgmmnekepelomaaTlA
namespace Go.Proofs.Ytgmmnekepelomaa
open Go.RowKit

theorem StG.skipU {P : Program} {ops : Array Oper} {w : World} {Q : Act → Prop} {rest : List Oper} {a a' : Act} {o : Oper} (hw : Region.wanted o (yielded ops a.tmps) = false) (hp : a.put o.dst undef = a') (h : StG P ops w Q rest a') : StG P ops w Q (o :: rest) a :=
  StG.in_ (wpStill_step fun K hK => by rw [if_neg (by rw [hw]; exact Bool.false_ne_true), hp]; exact hK _ h.out)

theorem ld30 (v : Value) : Instr.loadAt 30 v = ldAgg 30 v := rfl
theorem st30 (v x : Value) : Instr.storeAt 30 v x = stAgg 30 v x := rfl
theorem run_ld30 (w : World) (g off : Nat) (hp : plainRow w g = true) (hfit : off + 4 ≤ (rowOf w g).size) :
    (ldAgg 30 (.pointer (some ⟨g, off, none⟩))).run Try.prog w = .ok (.agg ((rowOf w g).extract off (off + 4))) w :=
  run_loadAt_row w g off 4 30 _ Try.underlying30 rfl (by kernel_rfl) hp hfit
theorem run_st30 (w : World) (g off : Nat) (vs : Array Value) (hp : plainRow w g = true) (hs : vs.size = 4) (h1 : ones vs = true) (hfit : off + 4 ≤ (rowOf w g).size) :
    (stAgg 30 (.pointer (some ⟨g, off, none⟩)) (.agg vs)).run Try.prog w = .ok () (w.setRow g (putAt (rowOf w g) off vs.toList)) :=
  run_storeAt_row w g off 4 30 vs (by kernel_rfl) hp hs h1 hfit
theorem tr_ones (x : Tr) : ones x.cells.toArray = true := by simp [ones, Tr.cells, Value.oneCell']
theorem tr_size (x : Tr) : x.cells.toArray.size = 4 := rfl
theorem tr_take (x : Tr) : List.take 4 x.cells = x.cells := rfl
theorem tr_extract (x : Tr) : x.cells.toArray.extract 0 4 = x.cells.toArray := rfl
theorem tr_put (x : Tr) (a b c d : Value) : putAt #[a, b, c, d] 0 x.cells = x.cells.toArray := rfl
theorem tr_put' (x y : Tr) : putAt y.cells.toArray 0 x.cells = x.cells.toArray := rfl
attribute [local go_sem ↓] ld30 st30
attribute [local go_sem] run_ld30 run_st30 tr_ones tr_size tr_take tr_extract tr_put tr_put' tr_len

@[go_sem] theorem setRow_drew_out (w : World) (g : Nat) (c : Array Value) : w.drew.setRow g c = (w.setRow g c).drew := rfl

@[go_sem] theorem setRow_drewN_out (w : World) (n g : Nat) (c : Array Value) : (w.drewN n).setRow g c = (w.setRow g c).drewN n := rfl
@[go_sem] theorem rowOf_alloc_eq (w : World) (g : Nat) (c : Array Value) (t : TypeId) (fz : Nat × Nat) (h : g = w.heap.size) : rowOf (w.alloc (.cells c t fz)) g = c := by subst h; exact rowOf_alloc_new w c t fz
@[go_sem] theorem plainRow_alloc_eq (w : World) (g : Nat) (c : Array Value) (t : TypeId) (h : g = w.heap.size) : plainRow (w.alloc (.cells c t)) g = true := by subst h; exact plainRow_alloc_new w c t
@[go_sem] theorem setRow_alloc_eq (w : World) (g : Nat) (c c' : Array Value) (t : TypeId) (fz : Nat × Nat) (h : g = w.heap.size) : (w.alloc (.cells c t fz)).setRow g c' = w.alloc (.cells c' t fz) := by subst h; exact setRow_alloc_new w c c' t fz

/-! ### The ring -/
structure Tl where
  size : Nat
  l : List Tr
structure Tl.ok (s : Tl) : Prop where
  s1 : 1 ≤ s.size
  s2 : s.size ≤ 64
  n : s.l.length ≤ s.size
  m : ∀ x ∈ s.l, x.may = true

/-- These stand in the ring, the first one at at0. -/
def Ring (cs : Array Value) (at0 : Nat) (l : List Tr) : Prop := ∀ k x, l[k]? = some x → cs.extract ((at0 + k) % 64 * 4) ((at0 + k) % 64 * 4 + 4) = x.cells.toArray
structure TlAt (w : World) (b : Nat) (s : Tl) : Prop where
  ok : s.ok
  ring : ∃ (cs : Array Value) (at0 : Nat), Blk w b 50 cs ∧ cs.size = 259 ∧ at0 < 64 ∧ cs[256]? = some (.int .i64 at0) ∧ cs[257]? = some (.int .i64 s.l.length) ∧ cs[258]? = some (.int .i64 s.size) ∧ Ring cs at0 s.l
theorem TlAt.only {w w' : World} {b : Nat} {s : Tl} {S : Nat → Prop} (h : TlAt w b s) (ho : Only S w w') (h1 : ¬ S b) : TlAt w' b s := by
  obtain ⟨ok, cs, at0, hc, rest⟩ := h
  exact ⟨ok, cs, at0, hc.only ho h1, rest⟩
theorem TlAt.below {w w' : World} {b : Nat} {s : Tl} (h : TlAt w b s) (hb : Below w.heap.size w w') : TlAt w' b s :=
  h.only (S := fun _ => False) (Only.of_below hb) (fun h => h)
theorem TlAt.lt {w : World} {b : Nat} {s : Tl} (h : TlAt w b s) : b < w.heap.size := by
  obtain ⟨_, cs, at0, hc, _⟩ := h
  exact hc.lt

theorem putAt_get {cs : Array Value} {off i : Nat} {vs : List Value} (h : off + vs.length ≤ cs.size) (hd : i < off ∨ off + vs.length ≤ i) : (putAt cs off vs)[i]? = cs[i]? := by
  simp only [putAt, List.getElem?_toArray]
  rcases hd with hd | hd
  · rw [List.getElem?_append_left (by simp; omega), List.getElem?_append_left (by simp; omega), List.getElem?_take_of_lt hd, Array.getElem?_toList]
  · rw [List.getElem?_append_right (by simp; omega), List.getElem?_drop, Array.getElem?_toList]
    congr 1
    simp
    omega
theorem ring_ne {at0 i j : Nat} (hi : i < 64) (hj : j < 64) (h : i ≠ j) : (at0 + i) % 64 ≠ (at0 + j) % 64 := by omega
theorem ring_put {cs : Array Value} {at0 i j : Nat} {x : Tr} (hs : cs.size = 259) (hi : i < 64) (hj : j < 64) :
    (putAt cs ((at0 + i) % 64 * 4) x.cells).extract ((at0 + j) % 64 * 4) ((at0 + j) % 64 * 4 + 4) = if i = j then x.cells.toArray else cs.extract ((at0 + j) % 64 * 4) ((at0 + j) % 64 * 4 + 4) := by
  have hfit : (at0 + i) % 64 * 4 + x.cells.length ≤ cs.size := by rw [tr_len]; omega
  split
  · rename_i h
    subst h
    exact putAt_same (vs := x.cells) hfit
  · rename_i h
    have := ring_ne (at0 := at0) hi hj h
    exact putAt_other hfit (by rw [tr_len]; omega)

theorem extract_set {cs : Array Value} {i a n : Nat} {v : Value} (h : a + n ≤ i ∨ i < a) : (cs.setIfInBounds i v).extract a (a + n) = cs.extract a (a + n) := by
  apply Array.ext
  · simp
  · intro j h1 h2
    simp only [Array.size_extract] at h2
    rw [Array.getElem_extract, Array.getElem_extract, Array.getElem_setIfInBounds_ne (by omega) (by omega)]
/-- How many there are is set anew. -/
theorem ring_len {w : World} {b at0 : Nat} {s : Tl} {cs : Array Value} {l : List Tr} (hc : Blk w b 50 cs) (h0 : cs.size = 259) (h1 : cs[256]? = some (.int .i64 at0)) (h3 : cs[258]? = some (.int .i64 s.size)) (h4 : at0 < 64)
    (hr : Ring cs at0 l) (s1 : 1 ≤ s.size) (s2 : s.size ≤ 64) (hl : l.length ≤ s.size) (hm : ∀ x ∈ l, x.may = true) : TlAt (w.setCell ⟨b, 257, none⟩ (.int .i64 (l.length : Nat))) b { s with l := l } := by
  refine ⟨⟨s1, s2, hl, hm⟩, cs.setIfInBounds 257 (.int .i64 (l.length : Nat)), at0, hc.set_ 257 _, by simpa using h0, h4, ?_, ?_, ?_, ?_⟩
  · rw [Array.getElem?_setIfInBounds_ne (by decide)]; exact h1
  · rw [Array.getElem?_setIfInBounds_self, if_pos (by omega)]
  · rw [Array.getElem?_setIfInBounds_ne (by decide)]; exact h3
  · intro k x hk
    rw [extract_set (.inl (by omega))]
    exact hr k x hk

/-! ### keep -/
/-- Those that are kept of the first k. -/
def kept (p : Nat → Tr → Bool) (l : List Tr) (k : Nat) : List Tr := ((l.take k).zipIdx.filter fun y => p y.2 y.1).map Prod.fst
theorem kept_zero (p : Nat → Tr → Bool) (l : List Tr) : kept p l 0 = [] := rfl
theorem kept_succ (p : Nat → Tr → Bool) (l : List Tr) (k : Nat) (h : k < l.length) : kept p l (k + 1) = kept p l k ++ (if p k l[k] then [l[k]] else []) := by
  unfold kept
  rw [List.take_succ_eq_append_getElem h, List.zipIdx_append, List.filter_append, List.map_append]
  congr 1
  simp only [List.length_take, Nat.zero_add, show min k l.length = k by omega, List.zipIdx_cons, List.zipIdx_nil]
  cases hq : p k l[k]
  · rw [List.filter_cons_of_neg (by simpa using hq)]; rfl
  · rw [List.filter_cons_of_pos (by simpa using hq)]; rfl
theorem kept_le (p : Nat → Tr → Bool) (l : List Tr) (k : Nat) : (kept p l k).length ≤ k := by
  unfold kept
  rw [List.length_map]
  refine Nat.le_trans (List.length_filter_le _ _) ?_
  simp
  omega
theorem kept_mem (p : Nat → Tr → Bool) (l : List Tr) (k : Nat) {x : Tr} (h : x ∈ kept p l k) : x ∈ l := by
  unfold kept at h
  obtain ⟨⟨y, i⟩, hy, rfl⟩ := List.mem_map.1 h
  have h1 := (List.mem_filter.1 hy).1
  have h2 := List.mem_zipIdx h1
  have h3 : y ∈ l.take k := by
    rw [h2.2.2]; exact List.getElem_mem _
  exact List.mem_of_mem_take h3

/-- In the midst of keep: k have been looked at. -/
structure Mid (w W : World) (b at0 : Nat) (s : Tl) (p : Nat → Tr → Bool) (k : Nat) : Prop where
  ex : ∃ cs : Array Value, Blk W b 50 cs ∧ cs.size = 259 ∧ cs[256]? = some (.int .i64 at0) ∧ cs[257]? = some (.int .i64 s.l.length) ∧ cs[258]? = some (.int .i64 s.size) ∧
    (∀ j x, (kept p s.l k)[j]? = some x → cs.extract ((at0 + j) % 64 * 4) ((at0 + j) % 64 * 4 + 4) = x.cells.toArray) ∧
    (∀ j x, k ≤ j → s.l[j]? = some x → cs.extract ((at0 + j) % 64 * 4) ((at0 + j) % 64 * 4 + 4) = x.cells.toArray)
  o : Only (· = b) w W
theorem mid_no {w W W' : World} {b at0 k : Nat} {s : Tl} {p : Nat → Tr → Bool} (h : Mid w W b at0 s p k) (hb : Below W.heap.size W W') (hk : k < s.l.length) (hp : p k s.l[k] = false) : Mid w W' b at0 s p (k + 1) := by
  obtain ⟨⟨cs, hc, e0, e1, e2, e3, e4, e5⟩, o⟩ := h
  refine ⟨⟨cs, hc.below hb hc.lt, e0, e1, e2, e3, ?_, fun j x hj hx => e5 j x (by omega) hx⟩, o.trans ((Only.of_below hb))⟩
  rw [kept_succ p s.l k hk, hp]
  simpa using e4
theorem mid_yes {w W' : World} {b at0 k : Nat} {s : Tl} {p : Nat → Tr → Bool} {cs : Array Value} (ok : s.ok) (o : Only (· = b) w W') (hb : Blk W' b 50 (putAt cs ((at0 + (kept p s.l k).length) % 64 * 4) (s.l[k]?.getD default).cells))
    (e0 : cs.size = 259) (e1 : cs[256]? = some (.int .i64 at0)) (e2 : cs[257]? = some (.int .i64 s.l.length)) (e3 : cs[258]? = some (.int .i64 s.size))
    (e4 : ∀ j x, (kept p s.l k)[j]? = some x → cs.extract ((at0 + j) % 64 * 4) ((at0 + j) % 64 * 4 + 4) = x.cells.toArray)
    (e5 : ∀ j x, k ≤ j → s.l[j]? = some x → cs.extract ((at0 + j) % 64 * 4) ((at0 + j) % 64 * 4 + 4) = x.cells.toArray) (hk : k < s.l.length) (hp : p k s.l[k] = true) : Mid w W' b at0 s p (k + 1) := by
  have hn := kept_le p s.l k
  have h64 := ok.s2
  have hnn := ok.n
  rw [List.getElem?_eq_getElem hk] at hb
  simp only [Option.getD_some] at hb
  have hfit : (at0 + (kept p s.l k).length) % 64 * 4 + (s.l[k]).cells.length ≤ cs.size := by rw [tr_len, e0]; omega
  refine ⟨⟨_, hb, by rw [size_putAt hfit, e0], ?_, ?_, ?_, ?_, ?_⟩, o⟩
  · rw [putAt_get hfit (.inr (by rw [tr_len]; omega)), e1]
  · rw [putAt_get hfit (.inr (by rw [tr_len]; omega)), e2]
  · rw [putAt_get hfit (.inr (by rw [tr_len]; omega)), e3]
  · intro j x hj
    rw [kept_succ p s.l k hk, hp, if_pos rfl] at hj
    have hjl := (List.getElem?_eq_some_iff.1 hj).1
    rw [List.length_append, List.length_singleton] at hjl
    rw [ring_put e0 (by omega) (by omega)]
    split
    · rename_i h
      subst h
      simp at hj
      rw [hj]
    · rw [List.getElem?_append_left (by omega)] at hj
      exact e4 j x hj
  · intro j x hj hx
    have hjl := (List.getElem?_eq_some_iff.1 hx).1
    rw [ring_put e0 (by omega) (by omega), if_neg (by omega)]
    exact e5 j x (by omega) hx
end Go.Proofs.Ytgmmnekepelomaa
