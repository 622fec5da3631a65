/- Script: the reader: whole structs; policy. -/
import Derived.Test.YtccoafacbbkooaaGreatDoorScC
import Derived.LoopN
namespace Go.Proofs.YtccoafacbbkooaaGreatDoor
open Go.RowKit

theorem ld23 (v : Value) : Instr.loadAt 23 v = ldAgg 23 v := rfl
theorem st23 (v x : Value) : Instr.storeAt 23 v x = stAgg 23 v x := rfl
theorem ld25 (v : Value) : Instr.loadAt 25 v = ldAgg 25 v := rfl
theorem st25 (v x : Value) : Instr.storeAt 25 v x = stAgg 25 v x := rfl
theorem st27 (v x : Value) : Instr.storeAt 27 v x = stAgg 27 v x := rfl
theorem ld29 (v : Value) : Instr.loadAt 29 v = ldAgg 29 v := rfl
theorem st29 (v x : Value) : Instr.storeAt 29 v x = stAgg 29 v x := rfl
attribute [go_sem ↓] ld23 st23 ld25 st25 st27 ld29 st29
/-- So many cells lie there. -/
def fits (cs : Array Value) (off n : Nat) : Bool := decide (off + n ≤ cs.size)
/-- Some cells of a row: a name of its own. -/
def cut (cs : Array Value) (off n : Nat) : Array Value := cs.extract off (off + n)
@[go_sem] theorem run_ld23 (w : World) (g off : Nat) (hp : plainRow w g = true) (hfit : fits (rowOf w g) off 2 = true) :
    (ldAgg 23 (.pointer (some ⟨g, off, none⟩))).run Tryz.prog w = .ok (.agg (cut (rowOf w g) off 2)) w :=
  run_loadAt_row w g off 2 23 _ Tryz.underlying23 rfl (by kernel_rfl) hp (of_decide_eq_true hfit)
@[go_sem] theorem run_st23 (w : World) (g off : Nat) (vs : Array Value) (hp : plainRow w g = true) (hs : vs.size = 2) (h1 : ones vs = true) (hfit : fits (rowOf w g) off 2 = true) :
    (stAgg 23 (.pointer (some ⟨g, off, none⟩)) (.agg vs)).run Tryz.prog w = .ok () (w.setRow g (putAt (rowOf w g) off vs.toList)) :=
  run_storeAt_row w g off 2 23 vs (by kernel_rfl) hp hs h1 (of_decide_eq_true hfit)
@[go_sem] theorem run_ld25 (w : World) (g off : Nat) (hp : plainRow w g = true) (hfit : fits (rowOf w g) off 8 = true) :
    (ldAgg 25 (.pointer (some ⟨g, off, none⟩))).run Tryz.prog w = .ok (.agg (cut (rowOf w g) off 8)) w :=
  run_loadAt_row w g off 8 25 _ Tryz.underlying25 rfl (by kernel_rfl) hp (of_decide_eq_true hfit)
@[go_sem] theorem run_st25 (w : World) (g off : Nat) (vs : Array Value) (hp : plainRow w g = true) (hs : vs.size = 8) (h1 : ones vs = true) (hfit : fits (rowOf w g) off 8 = true) :
    (stAgg 25 (.pointer (some ⟨g, off, none⟩)) (.agg vs)).run Tryz.prog w = .ok () (w.setRow g (putAt (rowOf w g) off vs.toList)) :=
  run_storeAt_row w g off 8 25 vs (by kernel_rfl) hp hs h1 (of_decide_eq_true hfit)
@[go_sem] theorem run_st27 (w : World) (g off : Nat) (vs : Array Value) (hp : plainRow w g = true) (hs : vs.size = 3) (h1 : ones vs = true) (hfit : fits (rowOf w g) off 3 = true) :
    (stAgg 27 (.pointer (some ⟨g, off, none⟩)) (.agg vs)).run Tryz.prog w = .ok () (w.setRow g (putAt (rowOf w g) off vs.toList)) :=
  run_storeAt_row w g off 3 27 vs (by kernel_rfl) hp hs h1 (of_decide_eq_true hfit)
@[go_sem] theorem run_ld29 (w : World) (g off : Nat) (hp : plainRow w g = true) (hfit : fits (rowOf w g) off 14 = true) :
    (ldAgg 29 (.pointer (some ⟨g, off, none⟩))).run Tryz.prog w = .ok (.agg (cut (rowOf w g) off 14)) w :=
  run_loadAt_row w g off 14 29 _ Tryz.underlying29 rfl (by kernel_rfl) hp (of_decide_eq_true hfit)
@[go_sem] theorem run_st29 (w : World) (g off : Nat) (vs : Array Value) (hp : plainRow w g = true) (hs : vs.size = 14) (h1 : ones vs = true) (hfit : fits (rowOf w g) off 14 = true) :
    (stAgg 29 (.pointer (some ⟨g, off, none⟩)) (.agg vs)).run Tryz.prog w = .ok () (w.setRow g (putAt (rowOf w g) off vs.toList)) :=
  run_storeAt_row w g off 14 29 vs (by kernel_rfl) hp hs h1 (of_decide_eq_true hfit)
@[go_sem] theorem rowOf_setCell_same (w : World) (g i : Nat) (v : Value) : rowOf (w.setCell ⟨g, i, none⟩ v) g = (rowOf w g).setIfInBounds i v := by
  unfold rowOf World.setCell
  simp only [Array.getElem?_modify]
  cases h : w.heap[g]? with
  | none => simp
  | some o => cases o <;> simp
@[go_sem] theorem plainRow_setCell (w : World) (p : Addr) (g : Nat) (v : Value) : plainRow (w.setCell p v) g = plainRow w g := by
  unfold plainRow World.setCell
  simp only [Array.getElem?_modify]
  by_cases hp : p.block = g
  · cases h : w.heap[g]? with
    | none => simp [hp]
    | some o =>
      rw [if_pos hp]
      cases o
      case cells c e fr =>
        obtain ⟨x, y⟩ := fr
        rcases x with _ | x <;> rcases y with _ | y <;> rfl
      all_goals rfl
  · simp [hp]
@[go_sem] theorem rowOf_alloc_eq (w : World) (g : Nat) (c : Array Value) (t : TypeId) (fz : Nat × Nat) (h : g = w.heap.size) : rowOf (w.alloc (.cells c t fz)) g = c := by subst h; exact rowOf_alloc_new w c t fz
@[go_sem] theorem plainRow_alloc_eq (w : World) (g : Nat) (c : Array Value) (t : TypeId) (h : g = w.heap.size) : plainRow (w.alloc (.cells c t)) g = true := by subst h; exact plainRow_alloc_new w c t
@[go_sem] theorem setRow_alloc_eq (w : World) (g : Nat) (c c' : Array Value) (t : TypeId) (fz : Nat × Nat) (h : g = w.heap.size) : (w.alloc (.cells c t fz)).setRow g c' = w.alloc (.cells c' t fz) := by subst h; exact setRow_alloc_new w c c' t fz
@[go_sem] theorem set2_0 (a0 a1 v : Value) : (#[a0, a1] : Array Value).setIfInBounds 0 v = #[v, a1] := rfl
@[go_sem] theorem set2_1 (a0 a1 v : Value) : (#[a0, a1] : Array Value).setIfInBounds 1 v = #[a0, v] := rfl
@[go_sem] theorem set8_0 (a0 a1 a2 a3 a4 a5 a6 a7 v : Value) : (#[a0, a1, a2, a3, a4, a5, a6, a7] : Array Value).setIfInBounds 0 v = #[v, a1, a2, a3, a4, a5, a6, a7] := rfl
@[go_sem] theorem set8_1 (a0 a1 a2 a3 a4 a5 a6 a7 v : Value) : (#[a0, a1, a2, a3, a4, a5, a6, a7] : Array Value).setIfInBounds 1 v = #[a0, v, a2, a3, a4, a5, a6, a7] := rfl
@[go_sem] theorem set8_2 (a0 a1 a2 a3 a4 a5 a6 a7 v : Value) : (#[a0, a1, a2, a3, a4, a5, a6, a7] : Array Value).setIfInBounds 2 v = #[a0, a1, v, a3, a4, a5, a6, a7] := rfl
@[go_sem] theorem set8_3 (a0 a1 a2 a3 a4 a5 a6 a7 v : Value) : (#[a0, a1, a2, a3, a4, a5, a6, a7] : Array Value).setIfInBounds 3 v = #[a0, a1, a2, v, a4, a5, a6, a7] := rfl
@[go_sem] theorem set8_4 (a0 a1 a2 a3 a4 a5 a6 a7 v : Value) : (#[a0, a1, a2, a3, a4, a5, a6, a7] : Array Value).setIfInBounds 4 v = #[a0, a1, a2, a3, v, a5, a6, a7] := rfl
@[go_sem] theorem set8_5 (a0 a1 a2 a3 a4 a5 a6 a7 v : Value) : (#[a0, a1, a2, a3, a4, a5, a6, a7] : Array Value).setIfInBounds 5 v = #[a0, a1, a2, a3, a4, v, a6, a7] := rfl
@[go_sem] theorem set8_6 (a0 a1 a2 a3 a4 a5 a6 a7 v : Value) : (#[a0, a1, a2, a3, a4, a5, a6, a7] : Array Value).setIfInBounds 6 v = #[a0, a1, a2, a3, a4, a5, v, a7] := rfl
@[go_sem] theorem set8_7 (a0 a1 a2 a3 a4 a5 a6 a7 v : Value) : (#[a0, a1, a2, a3, a4, a5, a6, a7] : Array Value).setIfInBounds 7 v = #[a0, a1, a2, a3, a4, a5, a6, v] := rfl
@[go_sem] theorem set14_12 (a0 a1 a2 a3 a4 a5 a6 a7 a8 a9 a10 a11 a12 a13 v : Value) : (#[a0, a1, a2, a3, a4, a5, a6, a7, a8, a9, a10, a11, a12, a13] : Array Value).setIfInBounds 12 v = #[a0, a1, a2, a3, a4, a5, a6, a7, a8, a9, a10, a11, v, a13] := rfl
@[go_sem] theorem put2_0 (a0 a1 c0 c1 : Value) : putAt #[a0, a1] 0 [c0, c1] = #[c0, c1] := rfl
@[go_sem] theorem put8_0 (a0 a1 a2 a3 a4 a5 a6 a7 c0 c1 c2 c3 c4 c5 c6 c7 : Value) : putAt #[a0, a1, a2, a3, a4, a5, a6, a7] 0 [c0, c1, c2, c3, c4, c5, c6, c7] = #[c0, c1, c2, c3, c4, c5, c6, c7] := rfl
@[go_sem] theorem put8_4 (a0 a1 a2 a3 a4 a5 a6 a7 c0 c1 : Value) : putAt #[a0, a1, a2, a3, a4, a5, a6, a7] 4 [c0, c1] = #[a0, a1, a2, a3, c0, c1, a6, a7] := rfl
@[go_sem] theorem put14_0 (a0 a1 a2 a3 a4 a5 a6 a7 a8 a9 a10 a11 a12 a13 c0 c1 c2 c3 c4 c5 c6 c7 c8 c9 c10 c11 c12 c13 : Value) : putAt #[a0, a1, a2, a3, a4, a5, a6, a7, a8, a9, a10, a11, a12, a13] 0 [c0, c1, c2, c3, c4, c5, c6, c7, c8, c9, c10, c11, c12, c13] = #[c0, c1, c2, c3, c4, c5, c6, c7, c8, c9, c10, c11, c12, c13] := rfl
@[go_sem] theorem put14_10 (a0 a1 a2 a3 a4 a5 a6 a7 a8 a9 a10 a11 a12 a13 c0 c1 c2 : Value) : putAt #[a0, a1, a2, a3, a4, a5, a6, a7, a8, a9, a10, a11, a12, a13] 10 [c0, c1, c2] = #[a0, a1, a2, a3, a4, a5, a6, a7, a8, a9, c0, c1, c2, a13] := rfl
@[go_sem] theorem cut2 (a0 a1 : Value) : cut #[a0, a1] 0 2 = #[a0, a1] := rfl
@[go_sem] theorem cut8 (a0 a1 a2 a3 a4 a5 a6 a7 : Value) : cut #[a0, a1, a2, a3, a4, a5, a6, a7] 0 8 = #[a0, a1, a2, a3, a4, a5, a6, a7] := rfl
@[go_sem] theorem cut14 (a0 a1 a2 a3 a4 a5 a6 a7 a8 a9 a10 a11 a12 a13 : Value) : cut #[a0, a1, a2, a3, a4, a5, a6, a7, a8, a9, a10, a11, a12, a13] 0 14 = #[a0, a1, a2, a3, a4, a5, a6, a7, a8, a9, a10, a11, a12, a13] := rfl
@[go_sem] theorem fits2_0 (a0 a1 : Value) : fits #[a0, a1] 0 2 = true := rfl
@[go_sem] theorem fits8_0 (a0 a1 a2 a3 a4 a5 a6 a7 : Value) : fits #[a0, a1, a2, a3, a4, a5, a6, a7] 0 8 = true := rfl
@[go_sem] theorem fits8_4 (a0 a1 a2 a3 a4 a5 a6 a7 : Value) : fits #[a0, a1, a2, a3, a4, a5, a6, a7] 4 2 = true := rfl
@[go_sem] theorem fits14_0 (a0 a1 a2 a3 a4 a5 a6 a7 a8 a9 a10 a11 a12 a13 : Value) : fits #[a0, a1, a2, a3, a4, a5, a6, a7, a8, a9, a10, a11, a12, a13] 0 14 = true := rfl
@[go_sem] theorem fits14_10 (a0 a1 a2 a3 a4 a5 a6 a7 a8 a9 a10 a11 a12 a13 : Value) : fits #[a0, a1, a2, a3, a4, a5, a6, a7, a8, a9, a10, a11, a12, a13] 10 3 = true := rfl
@[go_sem] theorem size2 (a0 a1 : Value) : (#[a0, a1] : Array Value).size = 2 := rfl
@[go_sem] theorem size3 (a0 a1 a2 : Value) : (#[a0, a1, a2] : Array Value).size = 3 := rfl
@[go_sem] theorem size8 (a0 a1 a2 a3 a4 a5 a6 a7 : Value) : (#[a0, a1, a2, a3, a4, a5, a6, a7] : Array Value).size = 8 := rfl
@[go_sem] theorem size14 (a0 a1 a2 a3 a4 a5 a6 a7 a8 a9 a10 a11 a12 a13 : Value) : (#[a0, a1, a2, a3, a4, a5, a6, a7, a8, a9, a10, a11, a12, a13] : Array Value).size = 14 := rfl
@[go_sem] theorem one_int (k : IntKind) (i : Int) : (Value.int k i).oneCell' = true := rfl
@[go_sem] theorem ones2 (a0 a1 : Value) : ones #[a0, a1] = (a0.oneCell' && a1.oneCell') := by simp [ones]
@[go_sem] theorem ones3 (a0 a1 a2 : Value) : ones #[a0, a1, a2] = (a0.oneCell' && a1.oneCell' && a2.oneCell') := by simp [ones, Bool.and_assoc]
@[go_sem] theorem ones8 (a0 a1 a2 a3 a4 a5 a6 a7 : Value) : ones #[a0, a1, a2, a3, a4, a5, a6, a7] = (a0.oneCell' && a1.oneCell' && a2.oneCell' && a3.oneCell' && a4.oneCell' && a5.oneCell' && a6.oneCell' && a7.oneCell') := by simp [ones, Bool.and_assoc]
@[go_sem] theorem ones14 (a0 a1 a2 a3 a4 a5 a6 a7 a8 a9 a10 a11 a12 a13 : Value) : ones #[a0, a1, a2, a3, a4, a5, a6, a7, a8, a9, a10, a11, a12, a13] = (a0.oneCell' && a1.oneCell' && a2.oneCell' && a3.oneCell' && a4.oneCell' && a5.oneCell' && a6.oneCell' && a7.oneCell' && a8.oneCell' && a9.oneCell' && a10.oneCell' && a11.oneCell' && a12.oneCell' && a13.oneCell') := by simp [ones, Bool.and_assoc]

/-! ### Literals -/
@[go_sem] theorem bd23_0 (w : World) : (Instr.build 23 #[]).run Tryz.prog w = .ok (.agg #[.int .i64 0, .int .i64 0]) w := by kernel_rfl
@[go_sem] theorem bd23_1 (w : World) (k : Int) : (Instr.build 23 #[(0, .int .i64 k)]).run Tryz.prog w = .ok (.agg #[.int .i64 k, .int .i64 0]) w := by kernel_rfl
@[go_sem] theorem bd27 (w : World) (k p : Int) : (Instr.build 27 #[(0, .int .i64 k), (1, .int .i64 p)]).run Tryz.prog w = .ok (.agg #[.int .i64 k, .int .i64 p, .int .i64 0]) w := by kernel_rfl

/-! ### The reader beside other blocks -/
theorem RdrAt.beside {w w' : World} {b g : Nat} {r : Rd} {t : TypeId} {cs : Array Value} (h : RdrAt w b r) (hg : Blk w g t cs) (h1 : t ≠ 51) (h2 : t ≠ 9) (ho : Only (· = g) w w') : RdrAt w' b r := by
  obtain ⟨q, hb, hq⟩ := h
  exact ⟨q, hb.only ho (fun e => (hb.ne_ hg (Ne.symm h1)) e), hq.only ho (fun k ck hk e => (hk.ne_ hg (Ne.symm h2)) e)⟩

def Cl.arr (x : Cl) : Array Value := #[.int .i64 x.kind, .int .i64 x.page, .int .i64 x.pages, .int .i64 x.perm, .int .i64 x.pk, .int .i64 x.pn, .int .i64 x.addr, .int .i64 x.byte]
def Itm.arr (x : Itm) : Array Value := #[.int .i64 x.kind, .int .i64 x.who, .int .i64 x.call.kind, .int .i64 x.call.page, .int .i64 x.call.pages, .int .i64 x.call.perm, .int .i64 x.call.pk, .int .i64 x.call.pn, .int .i64 x.call.addr, .int .i64 x.call.byte, .int .i64 x.jk, .int .i64 x.jp, .int .i64 x.jn, .int .i64 x.n]
def polV (p : Int × Int) : Value := .agg #[.int .i64 p.1, .int .i64 p.2]

def ksA : Array Value := #[.string { data := #[108, 111, 99, 97, 108] }, .string { data := #[98, 105, 110, 100] }, .string { data := #[112, 114, 101, 102, 101, 114] }, .string { data := #[109, 105, 120] }]
theorem kinds_w (w : World) : Calls Tryz.prog 59 #[] w fun e w' => e = .returned (.slice (some ⟨w.heap.size, 0, none⟩) 4 4) ∧ w' = w.alloc (.cells ksA 9) := by
  have hb : ∀ w, (Instr.buildSlice 48 4 #[(0, .string { data := #[108, 111, 99, 97, 108] }), (1, .string { data := #[98, 105, 110, 100] }), (2, .string { data := #[112, 114, 101, 102, 101, 114] }), (3, .string { data := #[109, 105, 120] })]).run Tryz.prog w = .ok (.slice (some ⟨w.heap.size, 0, none⟩) 4 4) (w.alloc (.cells ksA 9)) := fun w => by kernel_rfl
  go_enter Tryz.func59, Tryz.ntmps59
  go_wp2
  go_ret
  exact ⟨rfl, rfl⟩
attribute [go_sem] ksA
end Go.Proofs.YtccoafacbbkooaaGreatDoor
