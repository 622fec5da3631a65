/- Combine: calls, slots, what one keeps, as plain data; how it lies in memory; is, own, Mine, Holder, New. -/
import Derived.Test.YtaibhhppdmncfaaL0
import Derived.Test.YtaibhhppdmncfaaMpL
import Derived.Test.YtaibhhppdmncfaaProg
import Derived.Deep.RegionWith
namespace Go.Proofs.Ytaibhhppdmncfaa
open Go.RowKit Go.Maps

theorem StG.skipU {P : Program} {ops : Array Oper} {w : World} {Q : Act → Prop} {rest : List Oper} {a a' : Act} {o : Oper} (hw : Region.wanted o (yielded ops a.tmps) = false) (hp : a.put o.dst undef = a') (h : StG P ops w Q rest a') : StG P ops w Q (o :: rest) a :=
  StG.in_ (wpStill_step fun K hK => by rw [if_neg (by rw [hw]; exact Bool.false_ne_true), hp]; exact hK _ h.out)
/-- A call. -/
structure Cl where
  kind : Int
  page : Int
  pages : Int
  perm : Int
  pk : Int
  pn : Int
  addr : Int
  byte : Int
deriving DecidableEq
instance : Inhabited Cl := ⟨⟨0, 0, 0, 0, 0, 0, 0, 0⟩⟩
def Cl.cells (x : Cl) : List Value := [.int .i64 x.kind, .int .i64 x.page, .int .i64 x.pages, .int .i64 x.perm, .int .i64 x.pk, .int .i64 x.pn, .int .i64 x.addr, .int .i64 x.byte]
abbrev Cl.val (x : Cl) : Value := .agg x.cells.toArray
/-- A slot. -/
structure Sl where
  core : Nat
  x : Cl
  taken : Bool
  told : Bool
  index : Int
deriving DecidableEq
instance : Inhabited Sl := ⟨⟨0, default, false, false, 0⟩⟩
def Sl.cells (x : Sl) : List Value := [.int .i64 (x.core : Int), .int .i64 x.x.kind, .int .i64 x.x.page, .int .i64 x.x.pages, .int .i64 x.x.perm, .int .i64 x.x.pk, .int .i64 x.x.pn, .int .i64 x.x.addr, .int .i64 x.x.byte, .bool x.taken, .bool x.told, .int .i64 x.index]
abbrev Sl.val (x : Sl) : Value := .agg x.cells.toArray
theorem sl_len (x : Sl) : x.cells.length = 12 := rfl
def flat (l : List Sl) : List Value := l.flatMap Sl.cells
theorem length_flat (l : List Sl) : (flat l).length = l.length * 12 := by
  induction l with
  | nil => rfl
  | cons e l ih => simp only [flat, List.flatMap_cons, List.length_append, List.length_cons, Sl.cells, List.length_nil] at *; omega
theorem flat_snoc (l : List Sl) (e : Sl) : flat (l ++ [e]) = flat l ++ e.cells := by simp [flat]

structure Cb where
  node : Nat
  nodes : Nat
  cores : Nat
  l : List Sl
  who : Option Nat
  batch : List Nat
/-- Is this one of its cores? -/
def Cb.own (s : Cb) (i : Int) : Bool := decide (0 ≤ i) && decide (i < s.cores) && decide (i % s.nodes = s.node)
structure Cb.ok (s : Cb) : Prop where
  n1 : s.node < s.nodes
  n2 : s.nodes ≤ 8
  c1 : 1 ≤ s.cores
  c2 : s.cores ≤ 64
  srt : s.l.Pairwise (fun a b => a.core < b.core)
  mine : ∀ x ∈ s.l, s.own x.core = true
  bs : s.batch.Pairwise (· < ·)
  bat : ∀ i ∈ s.batch, ∃ x ∈ s.l, x.core = i ∧ x.taken = true ∧ x.told = false
  tak : ∀ x ∈ s.l, x.taken = true ↔ (x.told = true ∨ x.core ∈ s.batch)
  free : s.who = none → s.batch = []
  wh : ∀ (i : Nat), s.who = some i → s.own i = true
/-- The slot of a core. -/
def slotAt (l : List Sl) (i : Nat) : Option Sl := l.find? (fun x => x.core == i)
def slotG (l : List Sl) (i : Nat) : Option Value := (slotAt l i).map Sl.val

/-- A list of cores, to read. -/
def RdAt (w : World) (q : Value) (l : List Nat) : Prop :=
  ∃ a c, q = .slice a l.length c ∧ l.length ≤ c ∧ ((a = none ∧ l = []) ∨ ∃ g off cur, a = some ⟨g, off, none⟩ ∧ Blk w g 3 cur ∧ off + l.length ≤ cur.size ∧ ∀ j, j < l.length → cur[off + j]? = (l[j]?).map fun i => Value.int .i64 (i : Int))
theorem RdAt.only {w w' : World} {q : Value} {l : List Nat} {S : Nat → Prop} (h : RdAt w q l) (ho : Only S w w') (hS : ∀ g cur, Blk w g 3 cur → ¬ S g) : RdAt w' q l := by
  obtain ⟨a, c, h1, h2, h3⟩ := h
  refine ⟨a, c, h1, h2, h3.imp id ?_⟩
  rintro ⟨g, off, cur, e1, e2, e3⟩
  exact ⟨g, off, cur, e1, e2.only ho (hS g cur e2), e3⟩
theorem RdAt.empty_ (w : World) : RdAt w (.slice none 0 0) [] := ⟨none, 0, rfl, Nat.le_refl _, .inl ⟨rfl, rfl⟩⟩
theorem RdAt.head {w : World} {q : Value} {i : Nat} {l : List Nat} (h : RdAt w q (i :: l)) :
    ∃ g off c, q = .slice (some ⟨g, off, none⟩) (l.length + 1) c ∧ l.length + 1 ≤ c ∧ w.cell? ⟨g, off, none⟩ = some (.int .i64 (i : Int)) ∧ (∃ cur, Blk w g 3 cur) ∧ RdAt w (.slice (some ⟨g, off + 1, none⟩) l.length (c - 1)) l ∧ (c - 1 = 0 → RdAt w (.slice (some ⟨g, off, none⟩) l.length 0) l) := by
  obtain ⟨a, c, h1, h2, h3⟩ := h
  rcases h3 with ⟨_, h3⟩ | ⟨g, off, cur, rfl, e2, e3, e4⟩
  · cases h3
  · rw [List.length_cons] at h1 h2 e3
    refine ⟨g, off, c, h1, h2, ?_, ⟨cur, e2⟩, ⟨some ⟨g, off + 1, none⟩, c - 1, rfl, by omega, .inr ⟨g, off + 1, cur, rfl, e2, by omega, fun j hj => ?_⟩⟩, fun hc => ⟨some ⟨g, off, none⟩, 0, rfl, by omega, .inr ⟨g, off, cur, rfl, e2, by omega, fun j hj => by omega⟩⟩⟩
    · rw [e2.cell]
      exact e4 0 (by simp)
    · have := e4 (j + 1) (by simpa using hj)
      rw [List.getElem?_cons_succ] at this
      rw [← this]
      congr 1
      omega

def whoV : Option Nat → Value
  | some i => .int .i64 (i : Int)
  | none => .int .i64 (-1)
structure CbAt (w : World) (b m : Nat) (s : Cb) : Prop where
  ok : s.ok
  hb : ∃ q, Blk w b 61 #[.int .i64 (s.node : Int), .int .i64 (s.nodes : Int), .int .i64 (s.cores : Int), .map (some m), q, .bool s.who.isSome, .int .i64 (s.who.getD 0 : Nat)] ∧ RdAt w q s.batch
  hm : MapAt Try.prog 3 w m (slotG s.l)
structure RefAt (w : World) (base b : Nat) (v : Value) (s : Cb) : Prop where
  hb : ∃ q, Blk w b 43 #[.int .i64 (s.node : Int), .int .i64 (s.nodes : Int), .int .i64 (s.cores : Int), v, whoV s.who, q] ∧ RdAt w q s.batch
  hv : w.ownsRow base 49 12 v s.l.length (flat s.l)
theorem own_form {w : World} {base : Nat} {e : TypeId} {size n : Nat} {v : Value} {xs : List Value} (h : w.ownsRow base e size v n xs) : ∃ a c, v = .slice a n c := by
  rcases h.2 with ⟨hv, h0⟩ | ⟨g, c, cur, hv, _⟩
  · exact ⟨none, 0, by rw [hv, h0]⟩
  · exact ⟨_, c, hv⟩
theorem CbAt.only {w w' : World} {b m : Nat} {s : Cb} {S : Nat → Prop} (h : CbAt w b m s) (ho : Only S w w') (h1 : ¬ S b) (h2 : ¬ S m) (hS : ∀ g cur, Blk w g 3 cur → ¬ S g) : CbAt w' b m s := by
  obtain ⟨ok, ⟨q, hb, hq⟩, hm⟩ := h
  exact ⟨ok, ⟨q, hb.only ho h1, hq.only ho hS⟩, hm.only ho h2⟩
theorem CbAt.below {w w' : World} {b m : Nat} {s : Cb} (h : CbAt w b m s) (hb : Below w.heap.size w w') : CbAt w' b m s :=
  h.only (S := fun _ => False) (Only.of_below hb) (fun h => h) (fun h => h) (fun _ _ _ h => h)
theorem CbAt.ne {w : World} {b m : Nat} {s : Cb} (h : CbAt w b m s) : m ≠ b := by
  obtain ⟨_, ⟨q, hb, _⟩, hm⟩ := h
  exact hm.no_blk hb
theorem RefAt.only {w w' : World} {base b : Nat} {v : Value} {s : Cb} {S : Nat → Prop} (h : RefAt w base b v s) (ho : Only S w w') (h1 : ¬ S b) (h2 : ∀ k, v.ownBlock = some k → ¬ S k) (hS : ∀ g cur, Blk w g 3 cur → ¬ S g) : RefAt w' base b v s := by
  obtain ⟨⟨q, hb, hq⟩, hv⟩ := h
  exact ⟨⟨q, hb.only ho h1, hq.only ho hS⟩, own_only hv ho h2⟩
theorem RefAt.below {w w' : World} {base b : Nat} {v : Value} {s : Cb} (h : RefAt w base b v s) (hb : Below w.heap.size w w') : RefAt w' base b v s :=
  h.only (S := fun _ => False) (Only.of_below hb) (fun h => h) (fun _ _ h => h) (fun _ _ _ h => h)

/-! ### is, own, Mine -/
theorem run_map_ne (v : Option Nat) (w : World) : (binOp BinOp.neq 59 (.map v) (.map none)).run Try.prog w = .ok (.bool v.isSome) w := by
  cases v <;> kernel_rfl
attribute [local go_sem] run_map_ne
theorem is_nil (w : World) : Calls Try.prog 23 #[.pointer none] w fun r w' => r = .returned (.bool false) ∧ w = w' := by
  go_enter Try.func23, Try.ntmps23
  go_wp2
  go_ret
  exact ⟨rfl, rfl⟩
theorem is_blk (w : World) (b : Nat) (v : Option Nat) (h : w.cell? ⟨b, 3, none⟩ = some (.map v)) : Calls Try.prog 23 #[.pointer (some ⟨b, 0, none⟩)] w fun r w' => r = .returned (.bool v.isSome) ∧ w = w' := by
  go_enter Try.func23, Try.ntmps23
  go_wp2
  go_ret
  exact ⟨rfl, rfl⟩
theorem is_at (w : World) (b m : Nat) (s : Cb) (h : CbAt w b m s) : Calls Try.prog 23 #[.pointer (some ⟨b, 0, none⟩)] w fun r w' => r = .returned (.bool true) ∧ w = w' := by
  obtain ⟨_, ⟨q, hb, _⟩, _⟩ := h
  exact is_blk w b (some m) (hb.cell 3)

theorem is_drew (w : World) (b : Nat) (v : Option Nat) (h : w.cell? ⟨b, 3, none⟩ = some (.map v)) : Calls Try.prog 23 #[.pointer (some ⟨b, 0, none⟩)] w.drew fun r w' => r = .returned (.bool v.isSome) ∧ w.drew = w' := is_blk w.drew b v h
theorem own_no (w : World) (p : Option Addr) (i : Int) (h : Calls Try.prog 23 #[.pointer p] w.drew fun r w' => r = .returned (.bool false) ∧ w.drew = w') : Calls Try.prog 33 #[.pointer p, .int .i64 i] w fun r w' => r = .returned (.bool false) ∧ w.drew = w' := by
  have H := Lib.hid h; clear h
  go_enter Try.func33, Try.ntmps33
  go_wp2_with (refine wp_region_stG 26 (by kernel_rfl) (by kernel_rfl) ?_; simp only [List.take_succ_cons, List.take_zero, List.drop_succ_cons, List.drop_zero]; (repeat (first | (refine StG.skip rfl rfl ?_) | (refine StG.skipU rfl (by simp only [Act.put, List.setIfInBounds_toArray, List.set_cons_zero, List.set_cons_succ]; rfl) ?_) | (refine StG.want rfl (fun K hK => ?_); go_simp; (try go_bits); refine hK _ ?_; clear hK K) | (refine StG.want rfl (fun K hK => ?_); go_simp; refine ⟨_, (H.out).mono (fun _ _ h => ⟨h.1, h.2.symm⟩), hK _ ?_⟩; clear hK K))); refine StG.nil ?_)
  go_ret
  exact ⟨rfl, rfl⟩
theorem own_at (w : World) (b m : Nat) (s : Cb) (i : Int) (h : CbAt w b m s) : Calls Try.prog 33 #[.pointer (some ⟨b, 0, none⟩), .int .i64 i] w fun r w' => r = .returned (.bool (s.own i)) ∧ w.drew = w' := by
  obtain ⟨ok, ⟨q, hb, _⟩, _⟩ := h
  have n1 := ok.n1
  have n2 := ok.n2
  have c0 : w.cell? ⟨b, 0, none⟩ = some (.int .i64 (s.node : Int)) := hb.cell 0
  have c1 : w.cell? ⟨b, 1, none⟩ = some (.int .i64 (s.nodes : Int)) := hb.cell 1
  have c2 : w.cell? ⟨b, 2, none⟩ = some (.int .i64 (s.cores : Int)) := hb.cell 2
  have H := Lib.hid (is_drew w b (some m) (hb.cell 3))
  obtain ⟨r0, hr⟩ : ∃ r0, s.own i = r0 := ⟨_, rfl⟩
  rw [hr]
  unfold Cb.own at hr
  obtain ⟨N, hN⟩ : ∃ N, N = s.nodes := ⟨_, rfl⟩
  obtain ⟨C, hC⟩ : ∃ C, C = s.cores := ⟨_, rfl⟩
  obtain ⟨D, hD⟩ : ∃ D, D = s.node := ⟨_, rfl⟩
  rw [← hN] at n1 n2 c1 hr
  rw [← hD] at n1 c0 hr
  rw [← hC] at c2 hr
  have hN0 : N ≠ 0 := by omega
  clear ok hb hN hC hD
  by_cases h0 : 0 ≤ i
  · by_cases h1 : i < C
    · obtain ⟨k, rfl⟩ := Int.eq_ofNat_of_zero_le h0
      obtain rfl : ((k : Int) % N == D) = r0 := by rw [← hr]; simp [h0, h1]; rw [Bool.eq_iff_iff]; simp
      clear hr
      go_enter Try.func33, Try.ntmps33
      go_wp2_with (refine wp_region_stG 26 (by kernel_rfl) (by kernel_rfl) ?_; simp only [List.take_succ_cons, List.take_zero, List.drop_succ_cons, List.drop_zero]; (repeat (first | (refine StG.skip rfl rfl ?_) | (refine StG.skipU rfl (by simp only [Act.put, List.setIfInBounds_toArray, List.set_cons_zero, List.set_cons_succ]; rfl) ?_) | (refine StG.want rfl (fun K hK => ?_); go_simp; (try go_bits); refine hK _ ?_; clear hK K) | (refine StG.want rfl (fun K hK => ?_); go_simp; refine ⟨_, (H.out).mono (fun _ _ h => ⟨h.1, h.2.symm⟩), hK _ ?_⟩; clear hK K))); refine StG.nil ?_)
      go_ret
      exact ⟨rfl, rfl⟩
    · obtain rfl : false = r0 := by rw [← hr]; simp [h0, h1]
      have h2 : decide (i < (C : Int)) = false := by simpa using h1
      clear hr h1
      go_enter Try.func33, Try.ntmps33
      go_wp2_with (refine wp_region_stG 26 (by kernel_rfl) (by kernel_rfl) ?_; simp only [List.take_succ_cons, List.take_zero, List.drop_succ_cons, List.drop_zero]; (repeat (first | (refine StG.skip rfl rfl ?_) | (refine StG.skipU rfl (by simp only [Act.put, List.setIfInBounds_toArray, List.set_cons_zero, List.set_cons_succ]; rfl) ?_) | (refine StG.want rfl (fun K hK => ?_); go_simp; (try go_bits); refine hK _ ?_; clear hK K) | (refine StG.want rfl (fun K hK => ?_); go_simp; refine ⟨_, (H.out).mono (fun _ _ h => ⟨h.1, h.2.symm⟩), hK _ ?_⟩; clear hK K))); refine StG.nil ?_)
      go_ret
      exact ⟨rfl, rfl⟩
  · obtain rfl : false = r0 := by rw [← hr]; simp [h0]
    have h2 : decide (0 ≤ i) = false := by simpa using h0
    clear hr h0
    go_enter Try.func33, Try.ntmps33
    go_wp2_with (refine wp_region_stG 26 (by kernel_rfl) (by kernel_rfl) ?_; simp only [List.take_succ_cons, List.take_zero, List.drop_succ_cons, List.drop_zero]; (repeat (first | (refine StG.skip rfl rfl ?_) | (refine StG.skipU rfl (by simp only [Act.put, List.setIfInBounds_toArray, List.set_cons_zero, List.set_cons_succ]; rfl) ?_) | (refine StG.want rfl (fun K hK => ?_); go_simp; (try go_bits); refine hK _ ?_; clear hK K) | (refine StG.want rfl (fun K hK => ?_); go_simp; refine ⟨_, (H.out).mono (fun _ _ h => ⟨h.1, h.2.symm⟩), hK _ ?_⟩; clear hK K))); refine StG.nil ?_)
    go_ret
    exact ⟨rfl, rfl⟩
theorem mine_at (w : World) (base b : Nat) (v : Value) (s : Cb) (i : Int) (ok : s.ok) (h : RefAt w base b v s) : Calls Try.prog 34 #[.pointer (some ⟨b, 0, none⟩), .int .i64 i] w fun r w' => r = .returned (.bool (s.own i)) ∧ w.drew = w' := by
  obtain ⟨⟨q, hb, _⟩, _⟩ := h
  have n1 := ok.n1
  have n2 := ok.n2
  have c0 : w.cell? ⟨b, 0, none⟩ = some (.int .i64 (s.node : Int)) := hb.cell 0
  have c1 : w.cell? ⟨b, 1, none⟩ = some (.int .i64 (s.nodes : Int)) := hb.cell 1
  have c2 : w.cell? ⟨b, 2, none⟩ = some (.int .i64 (s.cores : Int)) := hb.cell 2
  obtain ⟨r0, hr⟩ : ∃ r0, s.own i = r0 := ⟨_, rfl⟩
  rw [hr]
  unfold Cb.own at hr
  obtain ⟨N, hN⟩ : ∃ N, N = s.nodes := ⟨_, rfl⟩
  obtain ⟨C, hC⟩ : ∃ C, C = s.cores := ⟨_, rfl⟩
  obtain ⟨D, hD⟩ : ∃ D, D = s.node := ⟨_, rfl⟩
  rw [← hN] at n1 n2 c1 hr
  rw [← hD] at n1 c0 hr
  rw [← hC] at c2 hr
  have hN0 : N ≠ 0 := by omega
  clear ok hb hN hC hD
  by_cases h0 : 0 ≤ i
  · by_cases h1 : i < C
    · obtain ⟨k, rfl⟩ := Int.eq_ofNat_of_zero_le h0
      obtain rfl : ((k : Int) % N == D) = r0 := by rw [← hr]; simp [h0, h1]; rw [Bool.eq_iff_iff]; simp
      clear hr
      go_enter Try.func34, Try.ntmps34
      go_wp2_with (refine wp_region_stG 22 (by kernel_rfl) (by kernel_rfl) ?_; simp only [List.take_succ_cons, List.take_zero, List.drop_succ_cons, List.drop_zero]; (repeat (first | (refine StG.skip rfl rfl ?_) | (refine StG.skipU rfl (by simp only [Act.put, List.setIfInBounds_toArray, List.set_cons_zero, List.set_cons_succ]; rfl) ?_) | (refine StG.want rfl (fun K hK => ?_); go_simp; (try go_bits); refine hK _ ?_; clear hK K))); refine StG.nil ?_)
      go_ret
      exact ⟨rfl, rfl⟩
    · obtain rfl : false = r0 := by rw [← hr]; simp [h0, h1]
      have h2 : decide (i < (C : Int)) = false := by simpa using h1
      clear hr h1
      go_enter Try.func34, Try.ntmps34
      go_wp2_with (refine wp_region_stG 22 (by kernel_rfl) (by kernel_rfl) ?_; simp only [List.take_succ_cons, List.take_zero, List.drop_succ_cons, List.drop_zero]; (repeat (first | (refine StG.skip rfl rfl ?_) | (refine StG.skipU rfl (by simp only [Act.put, List.setIfInBounds_toArray, List.set_cons_zero, List.set_cons_succ]; rfl) ?_) | (refine StG.want rfl (fun K hK => ?_); go_simp; (try go_bits); refine hK _ ?_; clear hK K))); refine StG.nil ?_)
      go_ret
      exact ⟨rfl, rfl⟩
  · obtain rfl : false = r0 := by rw [← hr]; simp [h0]
    have h2 : decide (0 ≤ i) = false := by simpa using h0
    clear hr h0
    go_enter Try.func34, Try.ntmps34
    go_wp2_with (refine wp_region_stG 22 (by kernel_rfl) (by kernel_rfl) ?_; simp only [List.take_succ_cons, List.take_zero, List.drop_succ_cons, List.drop_zero]; (repeat (first | (refine StG.skip rfl rfl ?_) | (refine StG.skipU rfl (by simp only [Act.put, List.setIfInBounds_toArray, List.set_cons_zero, List.set_cons_succ]; rfl) ?_) | (refine StG.want rfl (fun K hK => ?_); go_simp; (try go_bits); refine hK _ ?_; clear hK K))); refine StG.nil ?_)
    go_ret
    exact ⟨rfl, rfl⟩
end Go.Proofs.Ytaibhhppdmncfaa
