/- Words on memory for this claim: whole blocks, frames over a set of blocks, loads and stores of structs inside a block. No program in sight. -/
import Derived.WalkKit
import Derived.WalkSpells
import Derived.WalkLawsBesides
import Derived.Outline
import Derived.BigQuiet
import Derived.Deep.QuietTactic
import Derived.Deep.Draws
import Derived.StillTailTactics
import Derived.Lib.Hide
import Derived.Laws.Rows
import Derived.Laws.OwnMore
import Derived.Maps.AppendAt
import Derived.Deep.DeepFit
namespace Go.Proofs.YtccoafacbbkooaaGreatDoor
open Go.RowKit

theorem block_of_add (a : Addr) (n : Nat) : (a.add n).block = a.block := by unfold Addr.add; split <;> rfl
theorem add_zero_off (g j : Nat) : (⟨g, 0, none⟩ : Addr).add j = ⟨g, j, none⟩ := by unfold Addr.add; split <;> simp_all
theorem add_off (g o j : Nat) : (⟨g, o, none⟩ : Addr).add j = ⟨g, o + j, none⟩ := by unfold Addr.add; split <;> simp_all

/-- Block g is just the cells cs of element type t, none frozen. -/
def Blk (w : World) (g : Nat) (t : TypeId) (cs : Array Value) : Prop := w.heap[g]? = some (.cells cs t (0, 0))

section
variable {w w' : World} {g : Nat} {t : TypeId} {cs : Array Value}
theorem Blk.lt (h : Blk w g t cs) : g < w.heap.size := (Array.getElem?_eq_some_iff.1 h).1
theorem Blk.cell (h : Blk w g t cs) (i : Nat) : w.cell? ⟨g, i, none⟩ = cs[i]? := cell_of_row w g i cs t (0, 0) h
theorem Blk.frozen (h : Blk w g t cs) (i : Nat) : w.frozen? ⟨g, i, none⟩ = false := by
  unfold Blk at h
  simp [World.frozen?, h]
theorem Blk.new (w : World) (t : TypeId) (cs : Array Value) : Blk (w.alloc (.cells cs t)) w.heap.size t cs := heap_alloc_new w _
theorem Blk.new' {w : World} {g : Nat} (t : TypeId) (cs : Array Value) (h : g = w.heap.size) : Blk (w.alloc (.cells cs t)) g t cs := by subst h; exact heap_alloc_new w _
theorem Blk.drew (h : Blk w g t cs) : Blk w.drew g t cs := h
theorem Blk.drewN (h : Blk w g t cs) (n : Nat) : Blk (w.drewN n) g t cs := h
theorem Blk.alloc (h : Blk w g t cs) (o : Obj) : Blk (w.alloc o) g t cs := (Below.heap_alloc w o g h.lt).trans h
theorem Blk.set_ (h : Blk w g t cs) (i : Nat) (u : Value) : Blk (w.setCell ⟨g, i, none⟩ u) g t (cs.setIfInBounds i u) := by
  unfold Blk at h ⊢
  simp [World.setCell, Array.getElem?_modify, h]
theorem Blk.far (h : Blk w g t cs) {p : Addr} (hp : g ≠ p.block) (u : Value) : Blk (w.setCell p u) g t cs := (Below.heap_setCell w p u g hp).trans h
theorem Blk.row_ (h : Blk w g t cs) (cs' : Array Value) : Blk (w.setRow g cs') g t cs' := setRow_heap w g cs cs' t (0, 0) h
theorem Blk.farRow (h : Blk w g t cs) {g' : Nat} (hp : g ≠ g') (cs' : Array Value) : Blk (w.setRow g' cs') g t cs := (setRow_other w g' g cs' hp).trans h
theorem Blk.below {B : Nat} (h : Blk w g t cs) (hb : Below B w w') (hg : g < B) : Blk w' g t cs := (hb.block g hg).trans h
theorem Blk.grown {row : Option Nat} (h : Blk w g t cs) (hb : w.grownBy w' row) (hg : some g ≠ row) : Blk w' g t cs := (hb.block g h.lt hg).trans h
theorem Blk.eq {t' : TypeId} {cs' : Array Value} (h : Blk w g t cs) (h' : Blk w g t' cs') : cs = cs' := by
  unfold Blk at h h'
  rw [h] at h'
  injection h' with h'
  injection h'
theorem Blk.ne_ {g' : Nat} {t' : TypeId} {cs' : Array Value} (h : Blk w g t cs) (h' : Blk w g' t' cs') (hne : t ≠ t') : g ≠ g' := by
  rintro rfl
  unfold Blk at h h'
  rw [h] at h'
  injection h' with h'
  injection h' with _ ht
  exact hne ht
theorem own_blk_ne {base : Nat} {e : TypeId} {size n : Nat} {v : Value} {xs : List Value} (h : w.ownsRow base e size v n xs) (hg : Blk w g t cs) (hne : e ≠ t) : v.ownBlock ≠ some g := by
  rcases h.2 with ⟨rfl, _⟩ | ⟨g', cap, cur, rfl, _, hh, _⟩
  · simp [Value.ownBlock]
  · intro he
    have : g' = g := by simpa [Value.ownBlock] using he
    subst this
    exact Blk.ne_ (t := e) hh hg hne rfl
end

/-- What lay in w lies as it lay, but for the blocks of S. -/
structure Only (S : Nat → Prop) (w w' : World) : Prop where
  os : w'.os = w.os
  tape : w'.tape = w.tape
  output : w'.output = w.output
  size : w.heap.size ≤ w'.heap.size
  block : ∀ k, k < w.heap.size → ¬ S k → w'.heap[k]? = w.heap[k]?

section
variable {S : Nat → Prop} {a b c w w' : World}
theorem Only.refl (S : Nat → Prop) (w : World) : Only S w w := ⟨rfl, rfl, rfl, Nat.le_refl _, fun _ _ _ => rfl⟩
theorem Only.trans (h : Only S a b) (k : Only S b c) : Only S a c :=
  ⟨k.os.trans h.os, k.tape.trans h.tape, k.output.trans h.output, Nat.le_trans h.size k.size, fun i hi hs => (k.block i (Nat.lt_of_lt_of_le hi h.size) hs).trans (h.block i hi hs)⟩
theorem Only.mono {S' : Nat → Prop} (h : Only S a b) (hs : ∀ k, S k → S' k) : Only S' a b := ⟨h.os, h.tape, h.output, h.size, fun i hi hn => h.block i hi (fun hk => hn (hs i hk))⟩
theorem Only.drew (h : Only S a w) : Only S a w.drew := ⟨h.os, h.tape, h.output, h.size, h.block⟩
theorem Only.drewN (h : Only S a w) (n : Nat) : Only S a (w.drewN n) := ⟨h.os, h.tape, h.output, h.size, h.block⟩
theorem Only.alloc (h : Only S a w) (o : Obj) : Only S a (w.alloc o) :=
  h.trans ⟨rfl, rfl, rfl, by simp, fun k hk _ => Below.heap_alloc _ _ _ hk⟩
theorem Only.setCell (h : Only S a w) {p : Addr} (hp : S p.block ∨ a.heap.size ≤ p.block) (u : Value) : Only S a (w.setCell p u) :=
  ⟨h.os, h.tape, h.output, by simpa [World.setCell] using h.size, fun i hi hn => (Below.heap_setCell w p u i (by
    rintro rfl
    rcases hp with hp | hp
    · exact hn hp
    · omega)).trans (h.block i hi hn)⟩
theorem Only.setRow (h : Only S a w) {g : Nat} (hp : S g ∨ a.heap.size ≤ g) (cs : Array Value) : Only S a (w.setRow g cs) :=
  ⟨h.os, h.tape, h.output, by simpa using h.size, fun i hi hn => (setRow_other w g i cs (by
    rintro rfl
    rcases hp with hp | hp
    · exact hn hp
    · omega)).trans (h.block i hi hn)⟩
theorem Only.grown {row : Option Nat} (h : Only S a w) (hg : w.grownBy w' row) (hr : ∀ k, row = some k → S k ∨ a.heap.size ≤ k) : Only S a w' :=
  ⟨hg.os.trans h.os, hg.tape.trans h.tape, hg.output.trans h.output, Nat.le_trans h.size hg.size, fun i hi hn => (hg.block i (Nat.lt_of_lt_of_le hi h.size) (fun e => by
    rcases hr i e.symm with hk | hk
    · exact hn hk
    · omega)).trans (h.block i hi hn)⟩
theorem Only.of_below (h : Below w.heap.size w w') : Only S w w' := ⟨h.os, h.tape, h.output, h.size, fun i hi _ => h.block i hi⟩
theorem Only.of_below_n {B : Nat} (h : Below B w w') : Only (fun k => B ≤ k) w w' := ⟨h.os, h.tape, h.output, h.size, fun i _ hn => h.block i (Nat.lt_of_not_le hn)⟩
theorem Only.below {B : Nat} (h : Only S w w') (hB : B ≤ w.heap.size) (hs : ∀ k, S k → B ≤ k) : Below B w w' :=
  ⟨h.os, h.tape, h.output, h.size, fun k hk => h.block k (by omega) (fun hk' => by have := hs k hk'; omega)⟩
theorem below_drewN {B : Nat} (h : Below B a w) (n : Nat) : Below B a (w.drewN n) := ⟨h.os, h.tape, h.output, h.size, h.block⟩
theorem Below.setRow {B : Nat} (h : Below B a w) {g : Nat} (hp : B ≤ g) (cs : Array Value) : Below B a (w.setRow g cs) :=
  ⟨h.os, h.tape, h.output, by simpa using h.size, fun k hk => (setRow_other w g k cs (by omega)).trans (h.block k hk)⟩
theorem Blk.only {g : Nat} {t : TypeId} {cs : Array Value} (h : Blk w g t cs) (hb : Only S w w') (hg : ¬ S g) : Blk w' g t cs := (hb.block g h.lt hg).trans h
theorem own_only {base : Nat} {e : TypeId} {size n : Nat} {v : Value} {xs : List Value} (h : w.ownsRow base e size v n xs) (hb : Only S w w') (hg : ∀ k, v.ownBlock = some k → ¬ S k) : w'.ownsRow base e size v n xs := by
  refine ⟨h.1, ?_⟩
  rcases h.2 with hn | ⟨g, cap, cur, rfl, hbb, hgg, rest⟩
  · exact .inl hn
  · refine .inr ⟨g, cap, cur, rfl, hbb, ?_, rest⟩
    rw [hb.block g (Array.getElem?_eq_some_iff.1 hgg).1 (hg g rfl)]
    exact hgg
theorem own_below {base : Nat} {e : TypeId} {size n : Nat} {v : Value} {xs : List Value} (h : w.ownsRow base e size v n xs) (hb : Below w.heap.size w w') : w'.ownsRow base e size v n xs :=
  own_only (S := fun _ => False) h (Only.of_below hb) (fun _ _ h => h)
end

/-! ### Structs inside a block -/

/-- The cells cs with vs laid from off on. -/
def putAt (cs : Array Value) (off : Nat) (vs : List Value) : Array Value := (cs.toList.take off ++ vs ++ cs.toList.drop (off + vs.length)).toArray
theorem size_putAt {cs : Array Value} {off : Nat} {vs : List Value} (h : off + vs.length ≤ cs.size) : (putAt cs off vs).size = cs.size := by
  simp [putAt]; omega
theorem putAt_same {cs : Array Value} {off : Nat} {vs : List Value} (h : off + vs.length ≤ cs.size) : (putAt cs off vs).extract off (off + vs.length) = vs.toArray := by
  apply Array.ext'
  simp only [putAt, List.extract_toArray, List.extract_eq_take_drop, Nat.add_sub_cancel_left]
  rw [List.append_assoc, List.drop_append_of_le_length (by simp; omega)]
  rw [List.drop_of_length_le (by simp; omega), List.nil_append]
  exact List.take_left
theorem putAt_other {cs : Array Value} {off n a : Nat} {vs : List Value} (h : off + vs.length ≤ cs.size) (hd : a + n ≤ off ∨ off + vs.length ≤ a) : (putAt cs off vs).extract a (a + n) = cs.extract a (a + n) := by
  apply Array.ext
  · simp [putAt]; omega
  · intro i h1 h2
    simp only [Array.size_extract] at h1 h2
    simp only [Array.getElem_extract, putAt, List.getElem_toArray]
    rcases hd with hd | hd
    · rw [List.getElem_append_left (by simp; omega), List.getElem_append_left (by simp; omega)]
      simp
    · rw [List.getElem_append_right (by simp; omega)]
      simp only [List.length_append, List.length_take, Array.length_toList, List.getElem_drop, Array.getElem_toList]
      congr 1
      omega

section
variable {P : Program}

def isAggDesc : TypeDesc → Bool
  | .struct _ | .array _ _ => true
  | _ => false

theorem run_isAgg {ty : TypeId} {d : TypeDesc} (hu : P.underlying ty = some d) (hd : isAggDesc d = true) (w : World) : (isAgg ty).run P w = .ok true w := by
  unfold isAgg
  rw [Sem.run_bind, run_underlying hu w]
  cases d <;> simp_all [isAggDesc]

theorem run_loadVar_blk (w : World) (g off : Nat) (t ty : TypeId) (cs : Array Value) (d : TypeDesc) (n : Nat) (hg : Blk w g t cs)
    (hu : P.underlying ty = some d) (hd : isAggDesc d = true) (hi : (P.info? ty).map (·.size) = some n) (hfit : off + n ≤ cs.size) :
    (loadVar ty ⟨g, off, none⟩).run P w = .ok (.agg (cs.extract off (off + n))) w := by
  have hl : (loadCells ⟨g, off, none⟩ (cs.extract off (off + n)).toList.length).run P w = .ok (cs.extract off (off + n)).toList.toArray w :=
    run_loadCells_list (P := P) w ⟨g, off, none⟩ _ (fun j v hv => by
      rw [add_off, Blk.cell hg]
      simp only [Array.getElem?_toList, Array.getElem?_extract] at hv
      split at hv
      · exact hv
      · cases hv)
  cases hq : P.info? ty with
  | none => simp [hq] at hi
  | some i =>
    have hs : i.size = n := by simpa [hq] using hi
    have hagg := run_isAgg hu hd w
    have hlen : (cs.extract off (off + n)).toList.length = n := by simp; omega
    rw [hlen, Array.toArray_toList] at hl
    simp [loadVar, Sem.run_bind, hagg, sizeOf, typeInfo, hq, hs, hl]

theorem run_loadVar_one (w : World) (g off : Nat) (t ty : TypeId) (cs : Array Value) (d : TypeDesc) (v : Value) (hg : Blk w g t cs)
    (hu : P.underlying ty = some d) (hd : isAggDesc d = false) (hv : cs[off]? = some v) :
    (loadVar ty ⟨g, off, none⟩).run P w = .ok v w := by
  have hagg : (isAgg ty).run P w = .ok false w := by
    unfold isAgg
    rw [Sem.run_bind, run_underlying hu w]
    cases d <;> simp_all [isAggDesc]
  have hc : w.cell? ⟨g, off, none⟩ = some v := (hg.cell off).trans hv
  simp [loadVar, Sem.run_bind, hagg, load, Sem.run, hc]

theorem results_cell1 {fn : Func} {p : Tmp} {ty : TypeId} (h : fn.results = #[.cell p ty]) (tmps : Array Value) (w : World) {a : Addr} {v : Value}
    (hp : tmps.getD p undef = .pointer (some a)) (h1 : (loadVar ty a).run P w = .ok v w) : (results fn tmps).run P w = .ok v w := by
  have hp' : tmps[p]?.getD undef = .pointer (some a) := by simpa using hp
  simp [results, h, hp', asAddr, h1]
theorem results_cellTmp {fn : Func} {p q : Tmp} {t1 : TypeId} (h : fn.results = #[.cell p t1, .tmp q]) (tmps : Array Value) (w : World) {a : Addr} {u : Value}
    (hp : tmps.getD p undef = .pointer (some a)) (h1 : (loadVar t1 a).run P w = .ok u w) : (results fn tmps).run P w = .ok (.tuple #[u, tmps.getD q undef]) w := by
  have hp' : tmps[p]?.getD undef = .pointer (some a) := by simpa using hp
  simp [results, h, hp', asAddr, h1]
theorem results_cell2 {fn : Func} {p q : Tmp} {t1 t2 : TypeId} (h : fn.results = #[.cell p t1, .cell q t2]) (tmps : Array Value) (w : World) {a b : Addr} {u v : Value}
    (hp : tmps.getD p undef = .pointer (some a)) (hq : tmps.getD q undef = .pointer (some b)) (h1 : (loadVar t1 a).run P w = .ok u w) (h2 : (loadVar t2 b).run P w = .ok v w) : (results fn tmps).run P w = .ok (.tuple #[u, v]) w := by
  have hp' : tmps[p]?.getD undef = .pointer (some a) := by simpa using hp
  have hq' : tmps[q]?.getD undef = .pointer (some b) := by simpa using hq
  simp [results, h, hp', hq', asAddr, h1, h2]

theorem run_storeVar_blk (w : World) (g off : Nat) (t ty : TypeId) (cs vs : Array Value) (hg : Blk w g t cs) (hi : (P.info? ty).map (·.size) = some vs.size)
    (hfit : off + vs.size ≤ cs.size) (h1 : ∀ v ∈ vs, v.oneCell' = true) :
    (storeVar ty ⟨g, off, none⟩ (.agg vs)).run P w = .ok () (w.setRow g (putAt cs off vs.toList)) := by
  have := run_storeCells_at P g off t vs.toList 0 cs w hg (by simpa using hfit) (fun v hv => h1 v (by simpa using hv))
  cases hq : P.info? ty with
  | none => simp [hq] at hi
  | some i =>
    have hs : vs.size = i.size := by simp [hq] at hi; omega
    simp only [Nat.add_zero] at this
    simp [storeVar, sizeOf, typeInfo, hq, Value.cells, hs, this, putAt]

theorem wp_load_blk {o : Oper} {a : Act} {w : World} {K : Act → World → Prop} {Q : Exit → Act → World → Prop} (ty : TypeId) (x : Operand) (ho : o.op = .load ty x)
    (g off : Nat) (hx : a.eval x = .pointer (some ⟨g, off, none⟩)) (t : TypeId) (cs : Array Value) (d : TypeDesc) (n : Nat) (hg : Blk w g t cs)
    (hu : P.underlying ty = some d) (hd : isAggDesc d = true) (hi : (P.info? ty).map (·.size) = some n) (hfit : off + n ≤ cs.size)
    (h : K (a.put o.dst (.agg (cs.extract off (off + n)))) w) : o.wp P a w K Q := by
  unfold Oper.wp execOp
  simp only [ho, hx, Instr.loadAt, Instr.sureAddr, Sem.run_bind, Sem.run_pure, Result.andThen_ok, run_loadVar_blk w g off t ty cs d n hg hu hd hi hfit]
  exact h

theorem wpList_load_blk {ops : Array Oper} {rest : List Oper} {o : Oper} {a : Act} {w : World} {Q : Exit → Act → World → Prop} (hgd : o.guard = none) (ty : TypeId) (x : Operand) (ho : o.op = .load ty x)
    (g off : Nat) (hx : a.eval x = .pointer (some ⟨g, off, none⟩)) (t : TypeId) (cs : Array Value) (d : TypeDesc) (n : Nat) (hg : Blk w g t cs)
    (hu : P.underlying ty = some d) (hd : isAggDesc d = true) (hi : (P.info? ty).map (·.size) = some n) (hfit : off + n ≤ cs.size)
    (h : wpList P ops Q rest (a.put o.dst (.agg (cs.extract off (off + n)))) w) : wpList P ops Q (o :: rest) a w :=
  wpList_plain hgd fun _ hK => wp_load_blk ty x ho g off hx t cs d n hg hu hd hi hfit (hK _ _ h)

theorem wp_store_blk {o : Oper} {a : Act} {w : World} {K : Act → World → Prop} {Q : Exit → Act → World → Prop} (ty : TypeId) (x y : Operand) (ho : o.op = .store ty x y)
    (g off : Nat) (vs : Array Value) (hx : a.eval x = .pointer (some ⟨g, off, none⟩)) (hy : a.eval y = .agg vs)
    (t : TypeId) (cs : Array Value) (hg : Blk w g t cs) (hi : (P.info? ty).map (·.size) = some vs.size)
    (hfit : off + vs.size ≤ cs.size) (h1 : ∀ v ∈ vs, v.oneCell' = true)
    (h : K (a.put o.dst undef) (w.setRow g (putAt cs off vs.toList))) : o.wp P a w K Q := by
  unfold Oper.wp execOp
  simp only [ho, hx, hy, Instr.storeAt, Instr.sureAddr, Sem.run_bind, Sem.run_pure, Result.andThen_ok, run_storeVar_blk w g off t ty cs vs hg hi hfit h1]
  exact h

theorem wpList_store_blk {ops : Array Oper} {rest : List Oper} {o : Oper} {a : Act} {w : World} {Q : Exit → Act → World → Prop} (hgd : o.guard = none) (ty : TypeId) (x y : Operand) (ho : o.op = .store ty x y)
    (g off : Nat) (vs : Array Value) (hx : a.eval x = .pointer (some ⟨g, off, none⟩)) (hy : a.eval y = .agg vs)
    (t : TypeId) (cs : Array Value) (hg : Blk w g t cs) (hi : (P.info? ty).map (·.size) = some vs.size)
    (hfit : off + vs.size ≤ cs.size) (h1 : ∀ v ∈ vs, v.oneCell' = true)
    (h : wpList P ops Q rest (a.put o.dst undef) (w.setRow g (putAt cs off vs.toList))) : wpList P ops Q (o :: rest) a w :=
  wpList_plain hgd fun _ hK => wp_store_blk ty x y ho g off vs hx hy t cs hg hi hfit h1 (hK _ _ h)
end

/-! ### Blocks by functions of the world, for the walk's simp -/

/-- The cells of block g. -/
def rowOf (w : World) (g : Nat) : Array Value := match w.heap[g]? with | some (.cells c _ _) => c | _ => #[]
/-- Block g is cells, none frozen. -/
def plainRow (w : World) (g : Nat) : Bool := match w.heap[g]? with | some (.cells _ _ (0, 0)) => true | _ => false

section
variable {w w' : World} {g : Nat} {t : TypeId} {cs : Array Value}
theorem Blk.rowOf (h : Blk w g t cs) : rowOf w g = cs := by unfold Blk at h; simp [Go.Proofs.YtccoafacbbkooaaGreatDoor.rowOf, h]
theorem Blk.plain (h : Blk w g t cs) : plainRow w g = true := by unfold Blk at h; simp [plainRow, h]
theorem blk_of_plain (h : plainRow w g = true) : ∃ t, Blk w g t (rowOf w g) := by
  unfold plainRow at h
  split at h
  · rename_i c t hh; exact ⟨t, by unfold Blk rowOf; rw [hh]⟩
  · cases h
@[go_sem] theorem rowOf_drew (w : World) (g : Nat) : rowOf w.drew g = rowOf w g := rfl
@[go_sem] theorem rowOf_drewN (w : World) (n g : Nat) : rowOf (w.drewN n) g = rowOf w g := rfl
@[go_sem] theorem plainRow_drew (w : World) (g : Nat) : plainRow w.drew g = plainRow w g := rfl
@[go_sem] theorem plainRow_drewN (w : World) (n g : Nat) : plainRow (w.drewN n) g = plainRow w g := rfl
@[go_sem] theorem rowOf_alloc_new (w : World) (c : Array Value) (t : TypeId) (fz : Nat × Nat) : rowOf (w.alloc (.cells c t fz)) w.heap.size = c := by
  unfold rowOf; rw [heap_alloc_new]
@[go_sem] theorem plainRow_alloc_new (w : World) (c : Array Value) (t : TypeId) : plainRow (w.alloc (.cells c t)) w.heap.size = true := (Blk.new w t c).plain
@[go_sem] theorem rowOf_alloc_past (w : World) (o : Obj) (g : Nat) (h : g < w.heap.size) : rowOf (w.alloc o) g = rowOf w g := by
  unfold rowOf; rw [Below.heap_alloc w o g h]
@[go_sem] theorem plainRow_alloc_past (w : World) (o : Obj) (g : Nat) (h : g < w.heap.size) : plainRow (w.alloc o) g = plainRow w g := by
  unfold plainRow; rw [Below.heap_alloc w o g h]
@[go_sem] theorem rowOf_setRow_other (w : World) (g k : Nat) (c : Array Value) (h : k ≠ g) : rowOf (w.setRow g c) k = rowOf w k := by
  unfold rowOf; rw [setRow_other w g k c h]
@[go_sem] theorem plainRow_setRow_other (w : World) (g k : Nat) (c : Array Value) (h : k ≠ g) : plainRow (w.setRow g c) k = plainRow w k := by
  unfold plainRow; rw [setRow_other w g k c h]
@[go_sem] theorem rowOf_setCell_other (w : World) (p : Addr) (k : Nat) (v : Value) (h : k ≠ p.block) : rowOf (w.setCell p v) k = rowOf w k := by
  unfold rowOf; rw [Below.heap_setCell w p v k h]
@[go_sem] theorem plainRow_setCell_other (w : World) (p : Addr) (k : Nat) (v : Value) (h : k ≠ p.block) : plainRow (w.setCell p v) k = plainRow w k := by
  unfold plainRow; rw [Below.heap_setCell w p v k h]
@[go_sem] theorem cell?_setRow_same (w : World) (g i : Nat) (c : Array Value) (h : plainRow w g = true) : (w.setRow g c).cell? ⟨g, i, none⟩ = c[i]? := by
  obtain ⟨t, hb⟩ := blk_of_plain h
  exact Blk.cell (hb.row_ c) i
@[go_sem] theorem frozen?_setRow_same (w : World) (g i : Nat) (c : Array Value) (h : plainRow w g = true) : (w.setRow g c).frozen? ⟨g, i, none⟩ = false := by
  obtain ⟨t, hb⟩ := blk_of_plain h
  exact Blk.frozen (hb.row_ c) i
@[go_sem] theorem rowOf_setRow_same (w : World) (g : Nat) (c : Array Value) (h : plainRow w g = true) : rowOf (w.setRow g c) g = c := by
  obtain ⟨t, hb⟩ := blk_of_plain h
  exact Blk.rowOf (hb.row_ c)
@[go_sem] theorem plainRow_setRow_same (w : World) (g : Nat) (c : Array Value) (h : plainRow w g = true) : plainRow (w.setRow g c) g = true := by
  obtain ⟨t, hb⟩ := blk_of_plain h
  exact Blk.plain (hb.row_ c)
/-- A new block, overwritten whole. -/
@[go_sem] theorem setRow_alloc_new (w : World) (c c' : Array Value) (t : TypeId) (fz : Nat × Nat) : (w.alloc (.cells c t fz)).setRow w.heap.size c' = w.alloc (.cells c' t fz) := by
  unfold World.setRow World.alloc
  congr 1
  apply Array.ext
  · simp
  · intro i h1 h2
    simp only [Array.getElem_modify]
    split
    · rename_i hi
      subst hi
      simp
    · rename_i hi
      have h3 : i < w.heap.size := by simp at h2; omega
      rw [Array.getElem_push_lt h3, Array.getElem_push_lt h3]
@[go_sem] theorem cell?_setRow_other (w : World) (g k i : Nat) (c : Array Value) (h : k ≠ g) : (w.setRow g c).cell? ⟨k, i, none⟩ = w.cell? ⟨k, i, none⟩ :=
  World.cell?_of_block (setRow_other w g k c h)
@[go_sem] theorem frozen?_setRow_other (w : World) (g k i : Nat) (c : Array Value) (h : k ≠ g) : (w.setRow g c).frozen? ⟨k, i, none⟩ = w.frozen? ⟨k, i, none⟩ :=
  World.frozen?_of_block (setRow_other w g k c h)
end

section
variable {P : Program}
theorem run_loadAt_row (w : World) (g off n : Nat) (ty : TypeId) (d : TypeDesc) (hu : P.underlying ty = some d) (hd : isAggDesc d = true) (hi : (P.info? ty).map (·.size) = some n)
    (hp : plainRow w g = true) (hfit : off + n ≤ (rowOf w g).size) :
    (Instr.loadAt ty (.pointer (some ⟨g, off, none⟩))).run P w = .ok (.agg ((rowOf w g).extract off (off + n))) w := by
  obtain ⟨t, hb⟩ := blk_of_plain hp
  simp only [Instr.loadAt, Instr.sureAddr, Sem.run_bind, Sem.run_pure, Result.andThen_ok]
  exact run_loadVar_blk w g off t ty _ d n hb hu hd hi hfit
theorem run_storeAt_row (w : World) (g off n : Nat) (ty : TypeId) (vs : Array Value) (hi : (P.info? ty).map (·.size) = some n)
    (hp : plainRow w g = true) (hs : vs.size = n) (h1 : vs.all (·.oneCell') = true) (hfit : off + n ≤ (rowOf w g).size) :
    (Instr.storeAt ty (.pointer (some ⟨g, off, none⟩)) (.agg vs)).run P w = .ok () (w.setRow g (putAt (rowOf w g) off vs.toList)) := by
  obtain ⟨t, hb⟩ := blk_of_plain hp
  subst hs
  simp only [Instr.storeAt, Instr.sureAddr, Sem.run_bind, Sem.run_pure, Result.andThen_ok]
  exact run_storeVar_blk w g off t ty _ vs hb hi hfit (fun v hv => (Array.all_eq_true_iff_forall_mem.1 h1) v hv)
end
/-- Each of these is a value of one cell. -/
def ones (vs : Array Value) : Bool := vs.all (·.oneCell')
/-- A load, a store of a whole struct: names of their own, so that the walk does not take them apart. -/
def ldAgg (ty : TypeId) (v : Value) : Sem Value := Instr.loadAt ty v
def stAgg (ty : TypeId) (v x : Value) : Sem Unit := Instr.storeAt ty v x
theorem extract_all {c : Array Value} {n : Nat} (h : c.size = n) : c.extract 0 n = c := by subst h; simp

/-! ### A composite laid out of parts of several cells -/

theorem foldl_putAt (off : Nat) : ∀ (l : List Value) (k : Nat) (cs : Array Value), off + k + l.length ≤ cs.size →
    (l.zipIdx k).foldl (fun (cs : Array Value) (p : Value × Nat) => cs.setIfInBounds (off + p.2) p.1) cs = putAt cs (off + k) l
  | [], k, cs, h => by
    apply Array.ext'
    simp [putAt]
  | v :: l, k, cs, h => by
    simp only [List.length_cons] at h
    rw [List.zipIdx_cons, List.foldl_cons]
    rw [foldl_putAt off l (k + 1) _ (by simp; omega)]
    apply Array.ext
    · rw [size_putAt (by simp; omega), size_putAt (by simp; omega)]; simp
    · intro i h1 h2
      rw [size_putAt (by simp; omega)] at h2
      simp only [putAt, List.getElem_toArray, Array.toList_setIfInBounds]
      rcases Nat.lt_trichotomy i (off + k) with hi | hi | hi
      · rw [List.getElem_append_left (by simp; omega), List.getElem_append_left (by simp; omega), List.getElem_append_left (by simp; omega), List.getElem_append_left (by simp; omega)]
        simp only [List.getElem_take]
        rw [List.getElem_set_ne (by omega)]
      · subst hi
        rw [List.getElem_append_left (by simp; omega), List.getElem_append_left (by simp; omega), List.getElem_append_left (by simp; omega), List.getElem_append_right (by simp; omega)]
        simp [List.getElem_take, show min (off + k) cs.size = off + k by omega]
      · by_cases hj : i < off + k + 1 + l.length
        · rw [List.getElem_append_left (by simp; omega), List.getElem_append_right (by simp; omega), List.getElem_append_left (by simp; omega), List.getElem_append_right (by simp; omega)]
          simp only [List.length_take, Array.length_toList, List.length_set]
          simp only [show i - min (off + k) cs.size = (i - min (off + (k + 1)) cs.size) + 1 by omega, List.getElem_cons_succ]
        · rw [List.getElem_append_right (by simp; omega), List.getElem_append_right (by simp; omega)]
          simp only [List.length_append, List.length_take, Array.length_toList, List.length_set, List.length_cons, List.getElem_drop]
          rw [List.getElem_set_ne (by omega)]
          congr 1
          omega
theorem fill_cons {place : Nat → Option (Nat × Nat)} {cells vs : Array Value} {i off size : Nat} {v : Value} {rest : List (Nat × Value)} (hp : place i = some (off, size)) (hv : v.cells = vs) (hs : vs.size = size) (hf : off + size ≤ cells.size) :
    Instr.fill place cells ((i, v) :: rest) = Instr.fill place (putAt cells off vs.toList) rest := by
  subst hv
  have e := foldl_putAt off v.cells.toList 0 cells (by simp; omega)
  simp only [Instr.fill, hp]
  rw [if_neg (by simp; omega)]
  rw [← Array.foldl_toList, Array.toList_zipIdx]
  simp only [Nat.add_zero] at e
  rw [e]
theorem putAt_full {cs : Array Value} {l : List Value} (h : l.length = cs.size) : putAt cs 0 l = l.toArray := by
  apply Array.ext'
  simp [putAt, h]
section
variable {P : Program}
/-- A slice literal: a name of its own, so that the walk does not take it apart. -/
def bsl (t : TypeId) (n : Nat) (ps : Array (Nat × Value)) : Sem Value := Instr.buildSlice t n ps
/-- '[]T{x}': one element of several cells: a block of its own. -/
theorem run_buildSlice_one (w : World) (t e : TypeId) (vs : Array Value) (i : TypeInfo) (z : Value) (ht : P.underlying t = some (.slice e)) (hi : P.info? e = some i) (hz : i.zero = some z) (hs : vs.size = i.size) (h0 : 0 < i.size) (hb : i.size ≤ 16777216) :
    (Instr.buildSlice t 1 #[(0, .agg vs)]).run P w = .ok (.slice (some ⟨w.heap.size, 0, none⟩) 1 1) (w.alloc (.cells vs e)) := by
  have hf : Instr.fill (fun j => some (j * i.size, i.size)) ((Array.range (1 * i.size)).map (z.cells[· % z.cells.size]!)) [(0, .agg vs)] = some vs := by
    rw [fill_cons (off := 0) (size := i.size) (vs := vs) (by simp) rfl hs (by simp)]
    rw [putAt_full (by simp; omega)]
    simp [Instr.fill]
  have n1 : ¬ (i.size > 16777216) := by omega
  have n2 : ¬ (i.size = 0) := by omega
  simp only [Nat.one_mul] at hf
  simp [Instr.buildSlice, run_underlying ht, sizeOf, typeInfo, hi, n1, n2, zeroValue, hz, hf, newRow]
end

/-! ### The still walk of a region that draws its order, closed to unfolding -/
@[irreducible] def StG (P : Program) (ops : Array Oper) (w : World) (Q : Act → Prop) (l : List Oper) (a : Act) : Prop := wpStill P ops w Q l a
section
variable {P : Program} {ops : Array Oper} {w : World} {Q : Act → Prop} {l rest : List Oper} {a : Act} {o : Oper}
theorem StG.out (h : StG P ops w Q l a) : wpStill P ops w Q l a := by unfold StG at h; exact h
theorem StG.in_ (h : wpStill P ops w Q l a) : StG P ops w Q l a := by unfold StG; exact h
theorem StG.nil (h : Q a) : StG P ops w Q [] a := StG.in_ (wpStill_nil h)
theorem StG.want (hw : Region.wanted o (yielded ops a.tmps) = true) (h : ∀ K : Act → Prop, (∀ a, StG P ops w Q rest a → K a) → o.still P a w K) : StG P ops w Q (o :: rest) a :=
  StG.in_ (wpStill_step fun K hK => by rw [if_pos hw]; exact h K (fun a ha => hK a ha.out))
theorem StG.skip (hw : Region.wanted o (yielded ops a.tmps) = false) (hp : a.put o.dst undef = a) (h : StG P ops w Q rest a) : StG P ops w Q (o :: rest) a :=
  StG.in_ (wpStill_step fun K hK => by rw [if_neg (by rw [hw]; exact Bool.false_ne_true), hp]; exact hK a h.out)
/-- A region that draws its order: the first k operations only read, the others stand in one order. -/
theorem wp_region_stG {id : Nat} {Q : Exit → Act → World → Prop} {a : Act} {w : World} {l : List Oper} (n : Nat) (hm : P.follows .mixedOrders = true) (hB : Region.lexTailB .any l.toArray n = true)
    (h : StG P l.toArray w.drew (fun a' => wpList P l.toArray Q (l.drop n) a' w.drew) (l.take n) a) : (Code.region id l.toArray true).wp P Q a w :=
  wp_region_still_tail n hm hB h.out
end
end Go.Proofs.YtccoafacbbkooaaGreatDoor
