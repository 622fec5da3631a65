/- Combine: acts that came in; made, told, awake. -/
import Derived.Test.YtaibhhppdmncfaaCbO
namespace Go.Proofs.Ytaibhhppdmncfaa
open Go.RowKit Go.Maps

theorem ld35 (v : Value) : Instr.loadAt 35 v = ldAgg 35 v := rfl
attribute [local go_sem ↓] ld35
/-- A slice of acts that came in. -/
def ActsAt (w : World) (A : Option Addr) (l : List CAct) : Prop :=
  l.length * 88 ≤ 140737488351232 ∧ (∀ a ∈ l, a.fits) ∧ (0 < l.length → ∃ b off, A = some ⟨b, off, none⟩ ∧ b < w.heap.size ∧ ∀ i a, l[i]? = some a → ∀ j v, a.cells[j]? = some v → w.cell? ⟨b, off + i * 11 + j, none⟩ = some v)
theorem ActsAt.load {w W : World} {A : Option Addr} {l : List CAct} (h : ActsAt w A l) (hb : Below w.heap.size w W) {i : Nat} {a : CAct} (hi : l[i]? = some a) :
    ∃ b off, A = some ⟨b, off, none⟩ ∧ ∀ n, (ldAgg 35 (.pointer (some ⟨b, off + i * 11, none⟩))).run Try.prog (W.drewN n) = .ok a.val (W.drewN n) := by
  have hlt : i < l.length := (List.getElem?_eq_some_iff.1 hi).1
  obtain ⟨b, off, rfl, hbb, hc⟩ := h.2.2 (by omega)
  refine ⟨b, off, rfl, fun n => ?_⟩
  have hl : (loadCells ⟨b, off + i * 11, none⟩ a.cells.toList.length).run Try.prog (W.drewN n) = .ok a.cells.toList.toArray (W.drewN n) :=
    run_loadCells_list (P := Try.prog) (W.drewN n) ⟨b, off + i * 11, none⟩ _ (fun j v hv => by
      rw [add_off]
      exact (hb.cell (p := ⟨b, off + i * 11 + j, none⟩) hbb).trans (hc i a hi j v (by simpa using hv)))
  have hagg := run_isAgg (P := Try.prog) Try.underlying35 rfl (W.drewN n)
  obtain ⟨i0, hi0, hs⟩ : ∃ i, Try.prog.info? 35 = some i ∧ i.size = 11 := ⟨_, rfl, by kernel_rfl⟩
  have hsz : a.cells.toList.length = 11 := rfl
  rw [hsz, Array.toArray_toList] at hl
  simp only [ldAgg, Instr.loadAt, Instr.sureAddr, Sem.run_bind, Sem.run_pure, Result.andThen_ok]
  simp [loadVar, Sem.run_bind, hagg, sizeOf, typeInfo, hi0, hs, hl]
def Cb.run (s : Cb) (l : List CAct) : Cb := l.foldl Cb.step s
theorem run_snoc (s : Cb) (l : List CAct) (a : CAct) : s.run (l ++ [a]) = (s.run l).step a := by simp [Cb.run]
theorem snoc_take {α : Type} (l : List α) (k : Nat) (h : k < l.length) : l.take (k + 1) = l.take k ++ [l[k]] := by
  rw [List.take_succ_eq_append_getElem h]

theorem results_tmp4 {fn : Func} {t u v x : Tmp} (h : fn.results = #[.tmp t, .tmp u, .tmp v, .tmp x]) (tmps : Array Value) (P : Program) (w : World) :
    (results fn tmps).run P w = .ok (.tuple #[tmps.getD t undef, tmps.getD u undef, tmps.getD v undef, tmps.getD x undef]) w := by simp [results, h]
/-- A node of a machine. -/
structure Giv where
  node : Int
  nodes : Int
  cores : Int
def Giv.cells (x : Giv) : Array Value := #[.int .i64 x.node, .int .i64 x.nodes, .int .i64 x.cores]
abbrev Giv.val (x : Giv) : Value := .agg x.cells
def Giv.can (x : Giv) : Prop := Cb.can x.node x.nodes x.cores
def Giv.made (x : Giv) : Cb := ⟨x.node.toNat, x.nodes.toNat, x.cores.toNat, [], none, []⟩
theorem Giv.made_ok {x : Giv} (h : x.can) : x.made.ok := by
  obtain ⟨h1, h2, h3, h4, h5, h6⟩ := h
  refine ⟨?_, ?_, ?_, ?_, List.Pairwise.nil, (fun y hy => by cases hy), List.Pairwise.nil, (fun i hi => by cases hi), (fun y hy => by cases hy), fun _ => rfl, (fun i hi => by cases hi)⟩
  all_goals
    unfold Giv.made
    simp only
    omega
theorem new_cb (w : World) (x : Giv) (h : x.can) : Calls Try.prog 21 #[.int .i64 x.node, .int .i64 x.nodes, .int .i64 x.cores] w fun r w' => r = .returned (.tuple #[.pointer (some ⟨w.heap.size + 1, 0, none⟩), .int .i64 0]) ∧
    CbAt w' (w.heap.size + 1) w.heap.size x.made ∧ Below w.heap.size w w' ∧ w'.heap.size = w.heap.size + 2 := by
  have ok := Giv.made_ok h
  refine (new_yes w _ _ _ h).mono ?_
  rintro r w' ⟨rfl, rfl⟩
  obtain ⟨h1, h2, h3, h4, h5, h6⟩ := h
  have e1 : ((x.node.toNat : Nat) : Int) = x.node := by omega
  have e2 : ((x.nodes.toNat : Nat) : Int) = x.nodes := by omega
  have e3 : ((x.cores.toNat : Nat) : Int) = x.cores := by omega
  refine ⟨rfl, ⟨ok, ⟨.slice none 0 0, ?_, RdAt.empty_ _⟩, ?_⟩, ((Below.refl _ _).alloc (Nat.le_refl _) _).alloc (by simp) _, by simp⟩
  · unfold Giv.made
    simp only [e1, e2, e3]
    exact Blk.new' _ _ (by simp)
  · have h0 := mapAt_made Try.prog 3 w
    have h1 : MapAt Try.prog 3 ((w.alloc (.map #[] 0)).alloc (.cells #[.int .i64 x.node, .int .i64 x.nodes, .int .i64 x.cores, .map (some w.heap.size), .slice none 0 0, .bool false, .int .i64 0] 61)) w.heap.size (fun _ => none) := h0.below ((Below.refl _ _).alloc (Nat.le_refl _) _) (by simp)
    exact h1
theorem rNew_cb (w : World) (x : Giv) (base : Nat) (h : x.can) : Calls Try.prog 22 #[.int .i64 x.node, .int .i64 x.nodes, .int .i64 x.cores] w fun r w' => r = .returned (.tuple #[.pointer (some ⟨w.heap.size, 0, none⟩), .int .i64 0]) ∧
    RefAt w' base w.heap.size (.slice none 0 0) x.made ∧ Below w.heap.size w w' ∧ w'.heap.size = w.heap.size + 1 := by
  refine (rNew_yes w _ _ _ h).mono ?_
  rintro r w' ⟨rfl, rfl⟩
  obtain ⟨h1, h2, h3, h4, h5, h6⟩ := h
  have e1 : ((x.node.toNat : Nat) : Int) = x.node := by omega
  have e2 : ((x.nodes.toNat : Nat) : Int) = x.nodes := by omega
  have e3 : ((x.cores.toNat : Nat) : Int) = x.cores := by omega
  refine ⟨rfl, ⟨⟨.slice none 0 0, ?_, RdAt.empty_ _⟩, ⟨rfl, .inl ⟨rfl, rfl⟩⟩⟩, (Below.refl _ _).alloc (Nat.le_refl _) _, by simp⟩
  unfold Giv.made
  simp only [e1, e2, e3]
  exact Blk.new _ _ _

theorem made_no (w : World) (x : Giv) (A : Option Addr) (len cap : Nat) (h : ¬ x.can) :
    Calls Try.prog 7 #[x.val, .slice A len cap] w fun r w' => r = .returned (.tuple #[.pointer none, .pointer none, .bool true, .bool false]) ∧ Below w.heap.size w w' := by
  have H := Lib.hid h; clear h
  obtain ⟨a, b, c⟩ := x
  unfold Giv.can at H
  simp only [Giv.val, Giv.cells]
  go_enter Try.func7, Try.ntmps7
  go_wp2_with (first
    | (go_at_call 21; refine (new_no _ _ _ _ H.out).mono ?_; rintro r w1 ⟨rfl, rfl⟩)
    | (go_at_call 22; refine (rNew_no _ _ _ _ H.out).mono ?_; rintro r w1 ⟨rfl, rfl⟩))
  refine wp_loop_rounds 1 ?_
  rw [rounds_succ]
  go_wp2_with fail
  all_goals
    refine bodyPost_ret (results_tmp4 rfl _ _ _) rfl ?_
    exact ⟨rfl, (Below.refl _ _).alloc (Nat.le_refl _) _⟩
set_option maxRecDepth 100000 in
set_option maxHeartbeats 2000000 in
theorem made_yes (w : World) (x : Giv) (A : Option Addr) (cap : Nat) (l : List CAct) (h : x.can) (ha : ActsAt w A l) :
    Calls Try.prog 7 #[x.val, .slice A l.length cap] w fun r w' => ∃ b m br base, r = .returned (.tuple #[.pointer (some ⟨b, 0, none⟩), .pointer (some ⟨br, 0, none⟩), .bool true, .bool true]) ∧
      St w' w.heap.size base b m br (x.made.run l) ∧ Below w.heap.size w w' := by
  have hl : l.length ≤ 4398046510976 := by have := ha.1; omega
  have HA := Lib.hid ha; clear ha
  have H := Lib.hid h; clear h
  have NC := Lib.hid (fun W => new_cb W x H.out)
  have RC := Lib.hid (fun W b => rNew_cb W x b H.out)
  obtain ⟨s, hs⟩ : ∃ s, x.made = s := ⟨_, rfl⟩
  rw [hs] at NC RC ⊢
  clear hs H
  obtain ⟨a, b, c⟩ := x
  simp only [Giv.val, Giv.cells] at NC RC ⊢
  go_enter Try.func7, Try.ntmps7
  go_wp2_with (first
    | (go_at_call 21; refine (NC.out _).mono ?_; rintro r w1 ⟨rfl, L1, B1, Z1⟩; have bX : Blk w1 w.heap.size 23 _ := (Blk.new w 23 #[.int .i64 a, .int .i64 b, .int .i64 c]).below B1 (by simp); have c0 := bX.cell 0; have c1 := bX.cell 1; have c2 := bX.cell 2; have hX := bX.lt)
    | (go_at_call 22; refine (RC.out _ (w.heap.size + 4)).mono ?_; rintro r w2 ⟨rfl, R1, B2, Z2⟩))
  have hz1 : w1.heap.size = w.heap.size + 3 := by rw [Z1]; simp
  rw [hz1] at R1 Z2
  have hS0 : St w2 w.heap.size (w.heap.size + 4) (w.heap.size + 1 + 1) (w.heap.size + 1) (w.heap.size + 3) s := by
    refine ⟨?_, ⟨_, R1⟩, by omega, by omega, by omega, by omega, by omega⟩
    have := L1.below B2
    simpa using this
  have hB0 : Below w.heap.size w w2 := ((Below.refl _ w).alloc (Nat.le_refl _) _).trans ((B1.mono (by simp)).trans (B2.mono (by omega)))
  clear L1 R1 B1 B2 Z1 Z2 bX c0 c1 c2 hX NC RC
  clear hz1
  go_loopw [6, 10] (fun f i wr => ∃ k : Nat, k ≤ l.length ∧ f = .bool true ∧ i = .int .i64 k ∧ St wr w.heap.size (w.heap.size + 4) (w.heap.size + 1 + 1) (w.heap.size + 1) (w.heap.size + 3) (s.run (l.take k)) ∧ Below w.heap.size w wr)
    (fun _ i _ => l.length - (intOf i).toNat)
  case atStart => exact ⟨0, Nat.zero_le _, rfl, rfl, hS0, hB0⟩
  case round =>
    obtain ⟨k, hk, rfl, rfl, hS, hB⟩ := hrel
    clear hS0 hB0
    by_cases hlt : k < l.length
    · obtain ⟨bb, off, rfl, hload⟩ := HA.out.load hB (i := k) (List.getElem?_eq_getElem hlt)
      have hld : (ldAgg 35 (.pointer (some ⟨bb, off + k * 11, none⟩))).run Try.prog wr = .ok l[k].val wr := hload 0
      have hfit := HA.out.2.1 l[k] (List.getElem_mem hlt)
      have HF := Lib.hid hfit
      clear hload hfit
      go_wp2_with (go_at_call 10; refine (play_st _ _ _ _ _ _ _ _ hS HF.out).mono ?_; rintro r w3 ⟨rfl, hS', hB', _⟩)
      go_roundw
      case rel =>
        refine ⟨k + 1, by omega, rfl, by go_num, ?_, hB.trans hB'⟩
        rw [snoc_take l k hlt, run_snoc]
        exact hS'
      case measure => simp [intOf]; omega
    · go_wp2
      refine bodyPost_ret (results_tmp4 rfl _ _ _) rfl ?_
      rw [List.take_of_length_le (by omega)] at hS
      exact ⟨_, _, _, _, rfl, hS, hB⟩

/-! ### told -/
def toldN (l : List Sl) : Nat := l.countP Sl.told
theorem toldN_snoc {l : List Sl} {k : Nat} (hk : k < l.length) : toldN (l.take (k + 1)) = toldN (l.take k) + if l[k].told then 1 else 0 := by
  unfold toldN
  rw [List.take_succ_eq_append_getElem hk, List.countP_append, List.countP_singleton]
theorem toldN_le (l : List Sl) : toldN l ≤ l.length := List.countP_le_length
set_option maxHeartbeats 1000000 in
theorem told_at (w : World) (base b : Nat) (v : Value) (s : Cb) (h : RefAt w base b v s) (hn : s.l.length ≤ 64) : Calls Try.prog 12 #[.pointer (some ⟨b, 0, none⟩)] w fun r w' => r = .returned (.int .i64 (toldN s.l)) ∧ w = w' := by
  obtain ⟨⟨q, hb, _⟩, hv⟩ := h
  obtain ⟨a, c, rfl⟩ := own_form hv
  have c3 : w.cell? ⟨b, 3, none⟩ = some (.slice a s.l.length c) := hb.cell 3
  obtain ⟨l, hl⟩ : ∃ l, l = s.l := ⟨_, rfl⟩
  rw [← hl] at hv c3 hn ⊢
  have HV := Lib.hid hv
  clear hb hv hl
  go_enter Try.func12, Try.ntmps12
  go_wp2_with fail
  go_loopw [3, 4] (fun n' i' wr => w = wr ∧ ∃ k : Nat, k ≤ l.length ∧ i' = .int .i64 k ∧ n' = .int .i64 (toldN (l.take k)))
    (fun _ i' _ => l.length - (intOf i').toNat)
  case atStart => exact ⟨rfl, 0, Nat.zero_le _, rfl, rfl⟩
  case round =>
    obtain ⟨rfl, k, hk, rfl, rfl⟩ := hrel
    have hle := toldN_le (l.take k)
    rw [List.length_take] at hle
    by_cases hlt : k < l.length
    · obtain ⟨g, cap, hv, _, hc⟩ := own_cell HV.out hlt
      obtain ⟨rfl, rfl⟩ : a = some ⟨g, 0, none⟩ ∧ c = cap := by injection hv with h1 h2 h3; exact ⟨h1, h3⟩
      obtain ⟨y, hy⟩ : ∃ y, y = l[k].told := ⟨_, rfl⟩
      have c0 : w.cell? ⟨g, k * 12 + 10, none⟩ = some (.bool y) := by rw [hy]; exact hc 10 (by decide)
      have hsn := toldN_snoc hlt
      rw [← hy] at hsn
      have HSN := Lib.hid hsn
      clear hv hc hy hsn
      obtain ⟨t, ht⟩ : ∃ t, toldN (l.take k) = t := ⟨_, rfl⟩
      rw [ht] at HSN hle ⊢
      clear ht
      cases y
      all_goals
        go_wp2_with fail
        go_roundw
        case rel => exact ⟨trivial, k + 1, by omega, by go_num, by rw [HSN.out]; first | rfl | go_num⟩
        case measure => simp [intOf]; omega
    · obtain rfl : k = l.length := by omega
      rw [List.take_length]
      go_wp2_with fail
      go_ret
      exact ⟨rfl, rfl⟩

/-! ### awake -/
def wg : Giv := ⟨0, 2, 4⟩
def wx : Cl := ⟨2, 0, 0, 0, 0, 0, 0, 0⟩
theorem Only.ofB {S : Nat → Prop} {n : Nat} {a b c : World} (h : Only (fun k => n ≤ k) a b) (k : Only S b c) (hS : ∀ j, S j → n ≤ j) : Only (fun k => n ≤ k) a c := h.trans (k.mono hS)
set_option maxRecDepth 100000 in
set_option maxHeartbeats 2000000 in
theorem awake_any (w : World) : Calls Try.prog 8 #[] w fun r w' => r = .returned (.bool true) ∧ Below w.heap.size w w' := by
  have hcan : wg.can := ⟨by decide, by decide, by decide, by decide, by decide, by decide⟩
  have hbd : ∀ w, (Instr.build 33 #[(0, .int .i64 2)]).run Try.prog w = .ok wx.val w := fun _ => by kernel_rfl
  have v1 : wg.made.postE 2 = 0 := by decide +kernel
  have v2 : (wg.made.post 2 wx).canElect 0 = true := by decide +kernel
  have v3 : nextV ((wg.made.post 2 wx).elect 0) = .tuple #[.agg #[.int .i64 2, .int .i64 0, .int .i64 0, .int .i64 0, .int .i64 0, .int .i64 0, .int .i64 0, .int .i64 0, .int .i64 2], .bool true] := by kernel_rfl
  have v4 : ((wg.made.post 2 wx).elect 0).deliverE 7 = 0 := by decide +kernel
  have v5 : indexV (((wg.made.post 2 wx).elect 0).deliver 7).l 2 = .tuple #[.int .i64 7, .bool true] := by kernel_rfl
  have V1 := Lib.hid v1
  have V2 := Lib.hid v2
  have V3 := Lib.hid v3
  have V4 := Lib.hid v4
  have V5 := Lib.hid v5
  clear v1 v2 v3 v4 v5
  go_enter Try.func8, Try.ntmps8
  go_wp2_with fail
  refine (new_cb _ wg hcan).mono ?_
  rintro r w1 ⟨rfl, L1, B1, Z1⟩
  go_wp2_with fail
  refine (post_at _ _ _ _ 2 wx L1).mono ?_
  rintro r w2 ⟨rfl, L2, O2⟩
  rw [V1.out]
  go_wp2_with fail
  refine (elect_at _ _ _ _ 0 L2).mono ?_
  rintro r w3 ⟨rfl, L3, O3⟩
  rw [V2.out]
  go_wp2_with fail
  refine (next_at _ _ _ _ L3).mono ?_
  rintro r w4 ⟨rfl, B4⟩
  rw [V3.out]
  have L4 := L3.below B4
  have hlt : w.heap.size + 1 < w4.heap.size := L4.hb.choose_spec.1.lt
  go_wp2_with fail
  refine (deliver_at _ _ _ _ 7 (L4.below ((Below.refl _ _).alloc (Nat.le_refl _) _))).mono ?_
  rintro r w5 ⟨rfl, L5, O5⟩
  rw [V4.out]
  have hE : Blk w5 w4.heap.size 37 #[.int .i64 2, .int .i64 0, .int .i64 0, .int .i64 0, .int .i64 0, .int .i64 0, .int .i64 0, .int .i64 0, .int .i64 2] := (Blk.new w4 37 _).only O5 (by rintro (e | e) <;> omega)
  have e8 : w5.cell? ⟨w4.heap.size, 8, none⟩ = some (.int .i64 2) := hE.cell 8
  go_wp2_with fail
  refine (index_at _ _ _ _ 2 L5 (by decide) (by decide)).mono ?_
  rintro r w6 ⟨rfl, rfl⟩
  rw [V5.out]
  go_wp2_with fail
  go_ret
  have hO : Only (fun k => w.heap.size ≤ k) w w5 := (((((Only.of_below_n B1).ofB O2 (fun j hj => by rcases hj with rfl | rfl <;> omega)).ofB O3 (fun j hj => by rcases hj with rfl | rfl <;> omega)).trans (Only.of_below B4)).alloc _).ofB O5 (fun j hj => by rcases hj with rfl | rfl <;> omega)
  exact ⟨rfl, hO.below (Nat.le_refl _) (fun k hk => hk)⟩
end Go.Proofs.Ytaibhhppdmncfaa
