/- Script: the reference's job. Printed by mkScQ.py. -/
import Derived.Test.YtccoafacbbkooaaGreatDoorScP
namespace Go.Proofs.YtccoafacbbkooaaGreatDoor
open Go.RowKit Go.Maps

@[go_sem] theorem set14_1 (a0 a1 a2 a3 a4 a5 a6 a7 a8 a9 a10 a11 a12 a13 v : Value) : (#[a0, a1, a2, a3, a4, a5, a6, a7, a8, a9, a10, a11, a12, a13] : Array Value).setIfInBounds 1 v = #[a0, v, a2, a3, a4, a5, a6, a7, a8, a9, a10, a11, a12, a13] := rfl
@[go_sem] theorem set14_10 (a0 a1 a2 a3 a4 a5 a6 a7 a8 a9 a10 a11 a12 a13 v : Value) : (#[a0, a1, a2, a3, a4, a5, a6, a7, a8, a9, a10, a11, a12, a13] : Array Value).setIfInBounds 10 v = #[a0, a1, a2, a3, a4, a5, a6, a7, a8, a9, v, a11, a12, a13] := rfl
@[go_sem] theorem set14_11 (a0 a1 a2 a3 a4 a5 a6 a7 a8 a9 a10 a11 a12 a13 v : Value) : (#[a0, a1, a2, a3, a4, a5, a6, a7, a8, a9, a10, a11, a12, a13] : Array Value).setIfInBounds 11 v = #[a0, a1, a2, a3, a4, a5, a6, a7, a8, a9, a10, v, a12, a13] := rfl
@[go_sem] theorem bd29_k (w : World) (k : Int) : (Instr.build 29 #[(0, .int .i64 k)]).run Tryz.prog w = .ok (.agg #[.int .i64 k, .int .i64 0, .int .i64 0, .int .i64 0, .int .i64 0, .int .i64 0, .int .i64 0, .int .i64 0, .int .i64 0, .int .i64 0, .int .i64 0, .int .i64 0, .int .i64 0, .int .i64 0]) w := by kernel_rfl
/-- What the reference's job, read tell. -/
def RiPost (o : Option Itm) (e : Ending) : Prop := ∃ y : Itm, e = .returned (.tuple #[.agg y.arr, .bool o.isSome]) ∧ ∀ d, o = some d → d = y
theorem own_get {w : World} {base : Nat} {v : Value} {ns : List Nat} (h : w.ownsRow base 3 1 v ns.length (nums ns)) (h0 : ns ≠ []) :
    ∃ g c, v = .slice (some ⟨g, 0, none⟩) ns.length c ∧ base ≤ g ∧ g < w.heap.size ∧ ns.length ≤ c ∧ ∀ (j : Nat) (p : Nat), ns[j]? = some p → w.cell? ⟨g, j, none⟩ = some (.int .i64 (p : Int)) := by
  rcases h.2 with ⟨_, h1⟩ | ⟨g, c, cur, hv, hb, hg, hc, _, hs, ht⟩
  · exact absurd (List.length_eq_zero_iff.1 h1) h0
  · have hB : Blk w g 3 cur := hg
    refine ⟨g, c, hv, hb, hB.lt, hc, fun j p hj => ?_⟩
    rw [hB.cell]
    have hlt := (List.getElem?_eq_some_iff.1 hj).1
    have h1 : (nums ns)[j]? = some (.int .i64 (p : Int)) := by simp [hj]
    rw [← ht, List.getElem?_take_of_lt (by omega)] at h1
    simpa using h1

set_option maxRecDepth 100000 in
set_option maxHeartbeats 4000000 in
theorem rj_short (w : World) (g off n c : Nat) (a1 : Option Addr) (n1 c1 : Nat) (hn : n1 < 2) :
    Calls Tryz.prog 33 #[.slice (some ⟨g, off, none⟩) n c, .slice a1 n1 c1] w fun e w' => RiPost none e ∧ Below w.heap.size w w' := by
  have nq : w.heap.size + 1 ≠ w.heap.size := fun e => (by omega)
  go_enter Tryz.func33, Tryz.ntmps33
  go_wp2_with fail
  refine bodyPost_ret (results_cellTmp rfl _ _ rfl (run_loadVar_blk _ _ _ 29 29 (Itm.arr { i0 with kind := 3 }) _ 14 (((Blk.new w 29 _).new2 _).row_ _) Tryz.underlying29 rfl (by kernel_rfl) (by simp [Itm.arr]))) rfl ?_
  exact ⟨⟨{ i0 with kind := 3 }, rfl, fun _ h => by cases h⟩, Below.setRow (((Below.refl _ _).alloc (Nat.le_refl _) _).alloc (Nat.le_of_lt (Blk.new w 29 _).lt) _) (Nat.le_refl _) _⟩

set_option maxRecDepth 100000 in
set_option maxHeartbeats 4000000 in
theorem rj_Split (w : World) (g off n c : Nat) (x : Wd) (hc : w.cell? ⟨g, off, none⟩ = some (.string (bs x))) (hg : g < w.heap.size) (h0 : 0 < n) (u n1 c1 p q : Nat) (k0 : w.cell? ⟨u, 0, none⟩ = some (.int .i64 (p : Int))) (k1 : w.cell? ⟨u, 1, none⟩ = some (.int .i64 (q : Int))) (hu : u < w.heap.size) (hx : x = kSplit) (hn : n1 = 2) :
    Calls Tryz.prog 33 #[.slice (some ⟨g, off, none⟩) n c, .slice (some ⟨u, 0, none⟩) n1 c1] w fun e w' => RiPost (some { i0 with kind := 3, who := (p : Int), jp := (q : Int), jk := 2 }) e ∧ Below w.heap.size w w' := by
  have nq : w.heap.size + 1 ≠ w.heap.size := fun e => (by omega)
  obtain ⟨s, hs⟩ : ∃ s, bs x = s := ⟨_, rfl⟩
  have htl : s.toList = x := by rw [← hs]; exact bs_toList x
  rw [hs] at hc
  have hg1 : g < w.heap.size + 1 := by omega
  have ne1 : ¬ w.heap.size + 1 = g := by omega
  have ne2 : ¬ g = w.heap.size + 1 := by omega
  have ne3 : ¬ w.heap.size = g := by omega
  have ne4 : ¬ g = w.heap.size := by omega
  clear hs
  have hu1 : u < w.heap.size + 1 := by omega
  have me1 : ¬ w.heap.size + 1 = u := by omega
  have me2 : ¬ u = w.heap.size + 1 := by omega
  have me3 : ¬ w.heap.size = u := by omega
  have me4 : ¬ u = w.heap.size := by omega
  subst hn
  subst hx
  go_enter Tryz.func33, Tryz.ntmps33
  go_wp2_with fail
  refine bodyPost_ret (results_cellTmp rfl _ _ rfl (run_loadVar_blk _ _ _ 29 29 (Itm.arr { i0 with kind := 3, who := (p : Int), jp := (q : Int), jk := 2 }) _ 14 (((Blk.new w 29 _).new2 _).row_ _) Tryz.underlying29 rfl (by kernel_rfl) (by simp [Itm.arr]))) rfl ?_
  exact ⟨⟨{ i0 with kind := 3, who := (p : Int), jp := (q : Int), jk := 2 }, rfl, fun _ h => by cases h; rfl⟩, Below.setRow (((Below.refl _ _).alloc (Nat.le_refl _) _).alloc (Nat.le_of_lt (Blk.new w 29 _).lt) _) (Nat.le_refl _) _⟩

set_option maxRecDepth 100000 in
set_option maxHeartbeats 4000000 in
theorem rj_noSplit (w : World) (g off n c : Nat) (x : Wd) (hc : w.cell? ⟨g, off, none⟩ = some (.string (bs x))) (hg : g < w.heap.size) (h0 : 0 < n) (u n1 c1 p q : Nat) (k0 : w.cell? ⟨u, 0, none⟩ = some (.int .i64 (p : Int))) (k1 : w.cell? ⟨u, 1, none⟩ = some (.int .i64 (q : Int))) (hu : u < w.heap.size) (hx : x = kSplit) (hn : 2 < n1) :
    Calls Tryz.prog 33 #[.slice (some ⟨g, off, none⟩) n c, .slice (some ⟨u, 0, none⟩) n1 c1] w fun e w' => RiPost none e ∧ Below w.heap.size w w' := by
  have nq : w.heap.size + 1 ≠ w.heap.size := fun e => (by omega)
  obtain ⟨s, hs⟩ : ∃ s, bs x = s := ⟨_, rfl⟩
  have htl : s.toList = x := by rw [← hs]; exact bs_toList x
  rw [hs] at hc
  have hg1 : g < w.heap.size + 1 := by omega
  have ne1 : ¬ w.heap.size + 1 = g := by omega
  have ne2 : ¬ g = w.heap.size + 1 := by omega
  have ne3 : ¬ w.heap.size = g := by omega
  have ne4 : ¬ g = w.heap.size := by omega
  clear hs
  have hu1 : u < w.heap.size + 1 := by omega
  have me1 : ¬ w.heap.size + 1 = u := by omega
  have me2 : ¬ u = w.heap.size + 1 := by omega
  have me3 : ¬ w.heap.size = u := by omega
  have me4 : ¬ u = w.heap.size := by omega
  have hn1 : ((n1 : Int) == 2) = false := by rw [beq_eq_false_iff_ne]; omega
  subst hx
  go_enter Tryz.func33, Tryz.ntmps33
  go_wp2_with fail
  refine bodyPost_ret (results_cellTmp rfl _ _ rfl (run_loadVar_blk _ _ _ 29 29 (Itm.arr { i0 with kind := 3, who := (p : Int), jp := (q : Int), jk := 2 }) _ 14 (((Blk.new w 29 _).new2 _).row_ _) Tryz.underlying29 rfl (by kernel_rfl) (by simp [Itm.arr]))) rfl ?_
  exact ⟨⟨{ i0 with kind := 3, who := (p : Int), jp := (q : Int), jk := 2 }, rfl, fun _ h => by cases h⟩, Below.setRow (((Below.refl _ _).alloc (Nat.le_refl _) _).alloc (Nat.le_of_lt (Blk.new w 29 _).lt) _) (Nat.le_refl _) _⟩

set_option maxRecDepth 100000 in
set_option maxHeartbeats 4000000 in
theorem rj_Move (w : World) (g off n c : Nat) (x : Wd) (hc : w.cell? ⟨g, off, none⟩ = some (.string (bs x))) (hg : g < w.heap.size) (h0 : 0 < n) (u n1 c1 p q : Nat) (k0 : w.cell? ⟨u, 0, none⟩ = some (.int .i64 (p : Int))) (k1 : w.cell? ⟨u, 1, none⟩ = some (.int .i64 (q : Int))) (hu : u < w.heap.size) (r : Nat) (k2 : w.cell? ⟨u, 2, none⟩ = some (.int .i64 (r : Int))) (hx : x = kMove) (hn : n1 = 3) :
    Calls Tryz.prog 33 #[.slice (some ⟨g, off, none⟩) n c, .slice (some ⟨u, 0, none⟩) n1 c1] w fun e w' => RiPost (some { i0 with kind := 3, who := (p : Int), jp := (q : Int), jk := 1, jn := (r : Int) }) e ∧ Below w.heap.size w w' := by
  have nq : w.heap.size + 1 ≠ w.heap.size := fun e => (by omega)
  obtain ⟨s, hs⟩ : ∃ s, bs x = s := ⟨_, rfl⟩
  have htl : s.toList = x := by rw [← hs]; exact bs_toList x
  rw [hs] at hc
  have hg1 : g < w.heap.size + 1 := by omega
  have ne1 : ¬ w.heap.size + 1 = g := by omega
  have ne2 : ¬ g = w.heap.size + 1 := by omega
  have ne3 : ¬ w.heap.size = g := by omega
  have ne4 : ¬ g = w.heap.size := by omega
  clear hs
  have hu1 : u < w.heap.size + 1 := by omega
  have me1 : ¬ w.heap.size + 1 = u := by omega
  have me2 : ¬ u = w.heap.size + 1 := by omega
  have me3 : ¬ w.heap.size = u := by omega
  have me4 : ¬ u = w.heap.size := by omega
  subst hn
  subst hx
  go_enter Tryz.func33, Tryz.ntmps33
  go_wp2_with fail
  refine bodyPost_ret (results_cellTmp rfl _ _ rfl (run_loadVar_blk _ _ _ 29 29 (Itm.arr { i0 with kind := 3, who := (p : Int), jp := (q : Int), jk := 1, jn := (r : Int) }) _ 14 (((Blk.new w 29 _).new2 _).row_ _) Tryz.underlying29 rfl (by kernel_rfl) (by simp [Itm.arr]))) rfl ?_
  exact ⟨⟨{ i0 with kind := 3, who := (p : Int), jp := (q : Int), jk := 1, jn := (r : Int) }, rfl, fun _ h => by cases h; rfl⟩, Below.setRow (((Below.refl _ _).alloc (Nat.le_refl _) _).alloc (Nat.le_of_lt (Blk.new w 29 _).lt) _) (Nat.le_refl _) _⟩

set_option maxRecDepth 100000 in
set_option maxHeartbeats 4000000 in
theorem rj_noMove (w : World) (g off n c : Nat) (x : Wd) (hc : w.cell? ⟨g, off, none⟩ = some (.string (bs x))) (hg : g < w.heap.size) (h0 : 0 < n) (u n1 c1 p q : Nat) (k0 : w.cell? ⟨u, 0, none⟩ = some (.int .i64 (p : Int))) (k1 : w.cell? ⟨u, 1, none⟩ = some (.int .i64 (q : Int))) (hu : u < w.heap.size) (h2 : 2 ≤ n1) (hx : x = kMove) (hn : n1 ≠ 3) :
    Calls Tryz.prog 33 #[.slice (some ⟨g, off, none⟩) n c, .slice (some ⟨u, 0, none⟩) n1 c1] w fun e w' => RiPost none e ∧ Below w.heap.size w w' := by
  have nq : w.heap.size + 1 ≠ w.heap.size := fun e => (by omega)
  obtain ⟨s, hs⟩ : ∃ s, bs x = s := ⟨_, rfl⟩
  have htl : s.toList = x := by rw [← hs]; exact bs_toList x
  rw [hs] at hc
  have hg1 : g < w.heap.size + 1 := by omega
  have ne1 : ¬ w.heap.size + 1 = g := by omega
  have ne2 : ¬ g = w.heap.size + 1 := by omega
  have ne3 : ¬ w.heap.size = g := by omega
  have ne4 : ¬ g = w.heap.size := by omega
  clear hs
  have hu1 : u < w.heap.size + 1 := by omega
  have me1 : ¬ w.heap.size + 1 = u := by omega
  have me2 : ¬ u = w.heap.size + 1 := by omega
  have me3 : ¬ w.heap.size = u := by omega
  have me4 : ¬ u = w.heap.size := by omega
  have hn1 : ((n1 : Int) == 3) = false := by rw [beq_eq_false_iff_ne]; omega
  subst hx
  go_enter Tryz.func33, Tryz.ntmps33
  go_wp2_with fail
  refine bodyPost_ret (results_cellTmp rfl _ _ rfl (run_loadVar_blk _ _ _ 29 29 (Itm.arr { i0 with kind := 3, who := (p : Int), jp := (q : Int), jk := 1 }) _ 14 (((Blk.new w 29 _).new2 _).row_ _) Tryz.underlying29 rfl (by kernel_rfl) (by simp [Itm.arr]))) rfl ?_
  exact ⟨⟨{ i0 with kind := 3, who := (p : Int), jp := (q : Int), jk := 1 }, rfl, fun _ h => by cases h⟩, Below.setRow (((Below.refl _ _).alloc (Nat.le_refl _) _).alloc (Nat.le_of_lt (Blk.new w 29 _).lt) _) (Nat.le_refl _) _⟩

set_option maxRecDepth 100000 in
set_option maxHeartbeats 4000000 in
theorem rj_Join (w : World) (g off n c : Nat) (x : Wd) (hc : w.cell? ⟨g, off, none⟩ = some (.string (bs x))) (hg : g < w.heap.size) (h0 : 0 < n) (u n1 c1 p q : Nat) (k0 : w.cell? ⟨u, 0, none⟩ = some (.int .i64 (p : Int))) (k1 : w.cell? ⟨u, 1, none⟩ = some (.int .i64 (q : Int))) (hu : u < w.heap.size) (r : Nat) (k2 : w.cell? ⟨u, 2, none⟩ = some (.int .i64 (r : Int))) (hx : x = kJoin) (hn : n1 = 3) :
    Calls Tryz.prog 33 #[.slice (some ⟨g, off, none⟩) n c, .slice (some ⟨u, 0, none⟩) n1 c1] w fun e w' => RiPost (some { i0 with kind := 3, who := (p : Int), jp := (q : Int), jk := 3, jn := (r : Int) }) e ∧ Below w.heap.size w w' := by
  have nq : w.heap.size + 1 ≠ w.heap.size := fun e => (by omega)
  obtain ⟨s, hs⟩ : ∃ s, bs x = s := ⟨_, rfl⟩
  have htl : s.toList = x := by rw [← hs]; exact bs_toList x
  rw [hs] at hc
  have hg1 : g < w.heap.size + 1 := by omega
  have ne1 : ¬ w.heap.size + 1 = g := by omega
  have ne2 : ¬ g = w.heap.size + 1 := by omega
  have ne3 : ¬ w.heap.size = g := by omega
  have ne4 : ¬ g = w.heap.size := by omega
  clear hs
  have hu1 : u < w.heap.size + 1 := by omega
  have me1 : ¬ w.heap.size + 1 = u := by omega
  have me2 : ¬ u = w.heap.size + 1 := by omega
  have me3 : ¬ w.heap.size = u := by omega
  have me4 : ¬ u = w.heap.size := by omega
  subst hn
  subst hx
  go_enter Tryz.func33, Tryz.ntmps33
  go_wp2_with fail
  refine bodyPost_ret (results_cellTmp rfl _ _ rfl (run_loadVar_blk _ _ _ 29 29 (Itm.arr { i0 with kind := 3, who := (p : Int), jp := (q : Int), jk := 3, jn := (r : Int) }) _ 14 (((Blk.new w 29 _).new2 _).row_ _) Tryz.underlying29 rfl (by kernel_rfl) (by simp [Itm.arr]))) rfl ?_
  exact ⟨⟨{ i0 with kind := 3, who := (p : Int), jp := (q : Int), jk := 3, jn := (r : Int) }, rfl, fun _ h => by cases h; rfl⟩, Below.setRow (((Below.refl _ _).alloc (Nat.le_refl _) _).alloc (Nat.le_of_lt (Blk.new w 29 _).lt) _) (Nat.le_refl _) _⟩

set_option maxRecDepth 100000 in
set_option maxHeartbeats 4000000 in
theorem rj_noJoin (w : World) (g off n c : Nat) (x : Wd) (hc : w.cell? ⟨g, off, none⟩ = some (.string (bs x))) (hg : g < w.heap.size) (h0 : 0 < n) (u n1 c1 p q : Nat) (k0 : w.cell? ⟨u, 0, none⟩ = some (.int .i64 (p : Int))) (k1 : w.cell? ⟨u, 1, none⟩ = some (.int .i64 (q : Int))) (hu : u < w.heap.size) (h2 : 2 ≤ n1) (hx : x = kJoin) (hn : n1 ≠ 3) :
    Calls Tryz.prog 33 #[.slice (some ⟨g, off, none⟩) n c, .slice (some ⟨u, 0, none⟩) n1 c1] w fun e w' => RiPost none e ∧ Below w.heap.size w w' := by
  have nq : w.heap.size + 1 ≠ w.heap.size := fun e => (by omega)
  obtain ⟨s, hs⟩ : ∃ s, bs x = s := ⟨_, rfl⟩
  have htl : s.toList = x := by rw [← hs]; exact bs_toList x
  rw [hs] at hc
  have hg1 : g < w.heap.size + 1 := by omega
  have ne1 : ¬ w.heap.size + 1 = g := by omega
  have ne2 : ¬ g = w.heap.size + 1 := by omega
  have ne3 : ¬ w.heap.size = g := by omega
  have ne4 : ¬ g = w.heap.size := by omega
  clear hs
  have hu1 : u < w.heap.size + 1 := by omega
  have me1 : ¬ w.heap.size + 1 = u := by omega
  have me2 : ¬ u = w.heap.size + 1 := by omega
  have me3 : ¬ w.heap.size = u := by omega
  have me4 : ¬ u = w.heap.size := by omega
  have hn1 : ((n1 : Int) == 3) = false := by rw [beq_eq_false_iff_ne]; omega
  subst hx
  go_enter Tryz.func33, Tryz.ntmps33
  go_wp2_with fail
  refine bodyPost_ret (results_cellTmp rfl _ _ rfl (run_loadVar_blk _ _ _ 29 29 (Itm.arr { i0 with kind := 3, who := (p : Int), jp := (q : Int), jk := 3 }) _ 14 (((Blk.new w 29 _).new2 _).row_ _) Tryz.underlying29 rfl (by kernel_rfl) (by simp [Itm.arr]))) rfl ?_
  exact ⟨⟨{ i0 with kind := 3, who := (p : Int), jp := (q : Int), jk := 3 }, rfl, fun _ h => by cases h⟩, Below.setRow (((Below.refl _ _).alloc (Nat.le_refl _) _).alloc (Nat.le_of_lt (Blk.new w 29 _).lt) _) (Nat.le_refl _) _⟩

set_option maxRecDepth 100000 in
set_option maxHeartbeats 4000000 in
theorem rj_Copy (w : World) (g off n c : Nat) (x : Wd) (hc : w.cell? ⟨g, off, none⟩ = some (.string (bs x))) (hg : g < w.heap.size) (h0 : 0 < n) (u n1 c1 p q : Nat) (k0 : w.cell? ⟨u, 0, none⟩ = some (.int .i64 (p : Int))) (k1 : w.cell? ⟨u, 1, none⟩ = some (.int .i64 (q : Int))) (hu : u < w.heap.size) (r : Nat) (k2 : w.cell? ⟨u, 2, none⟩ = some (.int .i64 (r : Int))) (hx : x = kCopy) (hn : n1 = 3) :
    Calls Tryz.prog 33 #[.slice (some ⟨g, off, none⟩) n c, .slice (some ⟨u, 0, none⟩) n1 c1] w fun e w' => RiPost (some { i0 with kind := 3, who := (p : Int), jp := (q : Int), jk := 4, jn := (r : Int) }) e ∧ Below w.heap.size w w' := by
  have nq : w.heap.size + 1 ≠ w.heap.size := fun e => (by omega)
  obtain ⟨s, hs⟩ : ∃ s, bs x = s := ⟨_, rfl⟩
  have htl : s.toList = x := by rw [← hs]; exact bs_toList x
  rw [hs] at hc
  have hg1 : g < w.heap.size + 1 := by omega
  have ne1 : ¬ w.heap.size + 1 = g := by omega
  have ne2 : ¬ g = w.heap.size + 1 := by omega
  have ne3 : ¬ w.heap.size = g := by omega
  have ne4 : ¬ g = w.heap.size := by omega
  clear hs
  have hu1 : u < w.heap.size + 1 := by omega
  have me1 : ¬ w.heap.size + 1 = u := by omega
  have me2 : ¬ u = w.heap.size + 1 := by omega
  have me3 : ¬ w.heap.size = u := by omega
  have me4 : ¬ u = w.heap.size := by omega
  subst hn
  subst hx
  go_enter Tryz.func33, Tryz.ntmps33
  go_wp2_with fail
  refine bodyPost_ret (results_cellTmp rfl _ _ rfl (run_loadVar_blk _ _ _ 29 29 (Itm.arr { i0 with kind := 3, who := (p : Int), jp := (q : Int), jk := 4, jn := (r : Int) }) _ 14 (((Blk.new w 29 _).new2 _).row_ _) Tryz.underlying29 rfl (by kernel_rfl) (by simp [Itm.arr]))) rfl ?_
  exact ⟨⟨{ i0 with kind := 3, who := (p : Int), jp := (q : Int), jk := 4, jn := (r : Int) }, rfl, fun _ h => by cases h; rfl⟩, Below.setRow (((Below.refl _ _).alloc (Nat.le_refl _) _).alloc (Nat.le_of_lt (Blk.new w 29 _).lt) _) (Nat.le_refl _) _⟩

set_option maxRecDepth 100000 in
set_option maxHeartbeats 4000000 in
theorem rj_noCopy (w : World) (g off n c : Nat) (x : Wd) (hc : w.cell? ⟨g, off, none⟩ = some (.string (bs x))) (hg : g < w.heap.size) (h0 : 0 < n) (u n1 c1 p q : Nat) (k0 : w.cell? ⟨u, 0, none⟩ = some (.int .i64 (p : Int))) (k1 : w.cell? ⟨u, 1, none⟩ = some (.int .i64 (q : Int))) (hu : u < w.heap.size) (h2 : 2 ≤ n1) (hx : x = kCopy) (hn : n1 ≠ 3) :
    Calls Tryz.prog 33 #[.slice (some ⟨g, off, none⟩) n c, .slice (some ⟨u, 0, none⟩) n1 c1] w fun e w' => RiPost none e ∧ Below w.heap.size w w' := by
  have nq : w.heap.size + 1 ≠ w.heap.size := fun e => (by omega)
  obtain ⟨s, hs⟩ : ∃ s, bs x = s := ⟨_, rfl⟩
  have htl : s.toList = x := by rw [← hs]; exact bs_toList x
  rw [hs] at hc
  have hg1 : g < w.heap.size + 1 := by omega
  have ne1 : ¬ w.heap.size + 1 = g := by omega
  have ne2 : ¬ g = w.heap.size + 1 := by omega
  have ne3 : ¬ w.heap.size = g := by omega
  have ne4 : ¬ g = w.heap.size := by omega
  clear hs
  have hu1 : u < w.heap.size + 1 := by omega
  have me1 : ¬ w.heap.size + 1 = u := by omega
  have me2 : ¬ u = w.heap.size + 1 := by omega
  have me3 : ¬ w.heap.size = u := by omega
  have me4 : ¬ u = w.heap.size := by omega
  have hn1 : ((n1 : Int) == 3) = false := by rw [beq_eq_false_iff_ne]; omega
  subst hx
  go_enter Tryz.func33, Tryz.ntmps33
  go_wp2_with fail
  refine bodyPost_ret (results_cellTmp rfl _ _ rfl (run_loadVar_blk _ _ _ 29 29 (Itm.arr { i0 with kind := 3, who := (p : Int), jp := (q : Int), jk := 4 }) _ 14 (((Blk.new w 29 _).new2 _).row_ _) Tryz.underlying29 rfl (by kernel_rfl) (by simp [Itm.arr]))) rfl ?_
  exact ⟨⟨{ i0 with kind := 3, who := (p : Int), jp := (q : Int), jk := 4 }, rfl, fun _ h => by cases h⟩, Below.setRow (((Below.refl _ _).alloc (Nat.le_refl _) _).alloc (Nat.le_of_lt (Blk.new w 29 _).lt) _) (Nat.le_refl _) _⟩

set_option maxRecDepth 100000 in
set_option maxHeartbeats 4000000 in
theorem rj_other (w : World) (g off n c : Nat) (x : Wd) (hc : w.cell? ⟨g, off, none⟩ = some (.string (bs x))) (hg : g < w.heap.size) (h0 : 0 < n) (u n1 c1 p q : Nat) (k0 : w.cell? ⟨u, 0, none⟩ = some (.int .i64 (p : Int))) (k1 : w.cell? ⟨u, 1, none⟩ = some (.int .i64 (q : Int))) (hu : u < w.heap.size) (h2 : 2 ≤ n1) (hSplit : x ≠ kSplit) (hMove : x ≠ kMove) (hJoin : x ≠ kJoin) (hCopy : x ≠ kCopy) :
    Calls Tryz.prog 33 #[.slice (some ⟨g, off, none⟩) n c, .slice (some ⟨u, 0, none⟩) n1 c1] w fun e w' => RiPost none e ∧ Below w.heap.size w w' := by
  have nq : w.heap.size + 1 ≠ w.heap.size := fun e => (by omega)
  obtain ⟨s, hs⟩ : ∃ s, bs x = s := ⟨_, rfl⟩
  have htl : s.toList = x := by rw [← hs]; exact bs_toList x
  rw [hs] at hc
  have hg1 : g < w.heap.size + 1 := by omega
  have ne1 : ¬ w.heap.size + 1 = g := by omega
  have ne2 : ¬ g = w.heap.size + 1 := by omega
  have ne3 : ¬ w.heap.size = g := by omega
  have ne4 : ¬ g = w.heap.size := by omega
  clear hs
  have hu1 : u < w.heap.size + 1 := by omega
  have me1 : ¬ w.heap.size + 1 = u := by omega
  have me2 : ¬ u = w.heap.size + 1 := by omega
  have me3 : ¬ w.heap.size = u := by omega
  have me4 : ¬ u = w.heap.size := by omega
  have gSplit : (x == [115, 112, 108, 105, 116]) = false := by simpa using hSplit
  have gMove : (x == [109, 111, 118, 101]) = false := by simpa using hMove
  have gJoin : (x == [106, 111, 105, 110]) = false := by simpa using hJoin
  have gCopy : (x == [99, 111, 112, 121]) = false := by simpa using hCopy
  go_enter Tryz.func33, Tryz.ntmps33
  go_wp2_with fail
  refine bodyPost_ret (results_cellTmp rfl _ _ rfl (run_loadVar_blk _ _ _ 29 29 (Itm.arr { i0 with kind := 3, who := (p : Int), jp := (q : Int) }) _ 14 (((Blk.new w 29 _).new2 _).row_ _) Tryz.underlying29 rfl (by kernel_rfl) (by simp [Itm.arr]))) rfl ?_
  exact ⟨⟨{ i0 with kind := 3, who := (p : Int), jp := (q : Int) }, rfl, fun _ h => by cases h⟩, Below.setRow (((Below.refl _ _).alloc (Nat.le_refl _) _).alloc (Nat.le_of_lt (Blk.new w 29 _).lt) _) (Nat.le_refl _) _⟩

end Go.Proofs.YtccoafacbbkooaaGreatDoor
