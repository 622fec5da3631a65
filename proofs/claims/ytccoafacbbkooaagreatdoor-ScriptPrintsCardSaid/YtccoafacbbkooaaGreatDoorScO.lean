/- Script: the reference's call. Printed by mkScO.py. -/
import Derived.Test.YtccoafacbbkooaaGreatDoorScN
namespace Go.Proofs.YtccoafacbbkooaaGreatDoor
open Go.RowKit Go.Maps

@[go_sem] theorem bd25_0 (w : World) : (Instr.build 25 #[]).run Tryz.prog w = .ok (.agg #[.int .i64 0, .int .i64 0, .int .i64 0, .int .i64 0, .int .i64 0, .int .i64 0, .int .i64 0, .int .i64 0]) w := by kernel_rfl
@[go_sem] theorem bd25_2 (w : World) (k a : Int) : (Instr.build 25 #[(0, .int .i64 k), (5, .int .i64 a)]).run Tryz.prog w = .ok (.agg #[.int .i64 k, .int .i64 0, .int .i64 0, .int .i64 0, .int .i64 0, .int .i64 0, .int .i64 a, .int .i64 0]) w := by kernel_rfl
@[go_sem] theorem bd25_3 (w : World) (k a b : Int) : (Instr.build 25 #[(0, .int .i64 k), (5, .int .i64 a), (6, .int .i64 b)]).run Tryz.prog w = .ok (.agg #[.int .i64 k, .int .i64 0, .int .i64 0, .int .i64 0, .int .i64 0, .int .i64 0, .int .i64 a, .int .i64 b]) w := by kernel_rfl
/-- What the reference's call tells. -/
def RcPost (o : Option Cl) (e : Ending) : Prop := ∃ c : Cl, e = .returned (.tuple #[.agg c.arr, .bool o.isSome]) ∧ ∀ d, o = some d → d = c
theorem own_two {w : World} {base : Nat} {v : Value} {p q : Nat} (h : w.ownsRow base 3 1 v 2 (nums [p, q])) :
    ∃ g c, v = .slice (some ⟨g, 0, none⟩) 2 c ∧ w.cell? ⟨g, 0, none⟩ = some (.int .i64 (p : Int)) ∧ w.cell? ⟨g, 1, none⟩ = some (.int .i64 (q : Int)) ∧ base ≤ g ∧ g < w.heap.size ∧ 2 ≤ c := by
  rcases h.2 with ⟨_, h0⟩ | ⟨g, c, cur, hv, hb, hg, hc, _, hs, ht⟩
  · cases h0
  · have hB : Blk w g 3 cur := hg
    refine ⟨g, c, hv, ?_, ?_, hb, hB.lt, hc⟩
    · rw [hB.cell]
      have : (cur.toList.take (2 * 1))[0]? = some (.int .i64 (p : Int)) := by rw [ht]; rfl
      rw [List.getElem?_take_of_lt (by omega)] at this
      simpa using this
    · rw [hB.cell]
      have : (cur.toList.take (2 * 1))[1]? = some (.int .i64 (q : Int)) := by rw [ht]; rfl
      rw [List.getElem?_take_of_lt (by omega)] at this
      simpa using this
theorem own_one {w : World} {base : Nat} {v : Value} {p : Nat} (h : w.ownsRow base 3 1 v 1 (nums [p])) :
    ∃ g c, v = .slice (some ⟨g, 0, none⟩) 1 c ∧ w.cell? ⟨g, 0, none⟩ = some (.int .i64 (p : Int)) ∧ base ≤ g ∧ g < w.heap.size ∧ 1 ≤ c := by
  rcases h.2 with ⟨_, h0⟩ | ⟨g, c, cur, hv, hb, hg, hc, _, hs, ht⟩
  · cases h0
  · have hB : Blk w g 3 cur := hg
    refine ⟨g, c, hv, ?_, hb, hB.lt, hc⟩
    rw [hB.cell]
    have : (cur.toList.take (1 * 1))[0]? = some (.int .i64 (p : Int)) := by rw [ht]; rfl
    rw [List.getElem?_take_of_lt (by omega)] at this
    simpa using this

set_option maxRecDepth 100000 in
set_option maxHeartbeats 4000000 in
theorem rc_def_Map (w : World) (g off n c : Nat) (x : Wd) (hc : w.cell? ⟨g, off, none⟩ = some (.string (bs x))) (hg : g < w.heap.size) (hx : x = kMap) (hn : n < 5) (h0 : 0 < n) :
    Calls Tryz.prog 31 #[.slice (some ⟨g, off, none⟩) n c] w fun e w' => RcPost none e ∧ Below w.heap.size w w' := by
  obtain ⟨s, hs⟩ : ∃ s, bs x = s := ⟨_, rfl⟩
  have htl : s.toList = x := by rw [← hs]; exact bs_toList x
  rw [hs] at hc
  have hg1 : g < w.heap.size + 1 := by omega
  have hg2' : g < w.heap.size + 1 + 1 := by omega
  clear hs
  subst hx
  have hl1 : w.heap.size < w.heap.size + 1 + 1 := by omega
  go_enter Tryz.func31, Tryz.ntmps31
  go_wp2_with fail
  refine bodyPost_ret (results_cellTmp rfl _ _ rfl (run_loadVar_blk _ _ _ 25 25 (Cl.arr c0) _ 8 ((((Blk.new w 25 _).new2 _).new2 _).row_ _) Tryz.underlying25 rfl (by kernel_rfl) (by simp [Cl.arr]))) rfl ?_
  exact ⟨⟨c0, rfl, fun _ h => by cases h⟩, Below.setRow ((((Below.refl _ _).alloc (Nat.le_refl _) _).alloc (Nat.le_of_lt (Blk.new w 25 _).lt) _).alloc (Nat.le_of_lt ((Blk.new w 25 _).new2 _).lt) _) (Nat.le_refl _) _⟩

set_option maxRecDepth 100000 in
set_option maxHeartbeats 4000000 in
theorem rc_def_Bind (w : World) (g off n c : Nat) (x : Wd) (hc : w.cell? ⟨g, off, none⟩ = some (.string (bs x))) (hg : g < w.heap.size) (hx : x = kBind) (hn : n < 4) (h0 : 0 < n) :
    Calls Tryz.prog 31 #[.slice (some ⟨g, off, none⟩) n c] w fun e w' => RcPost none e ∧ Below w.heap.size w w' := by
  obtain ⟨s, hs⟩ : ∃ s, bs x = s := ⟨_, rfl⟩
  have htl : s.toList = x := by rw [← hs]; exact bs_toList x
  rw [hs] at hc
  have hg1 : g < w.heap.size + 1 := by omega
  have hg2' : g < w.heap.size + 1 + 1 := by omega
  clear hs
  subst hx
  have hl1 : w.heap.size < w.heap.size + 1 + 1 := by omega
  go_enter Tryz.func31, Tryz.ntmps31
  go_wp2_with fail
  refine bodyPost_ret (results_cellTmp rfl _ _ rfl (run_loadVar_blk _ _ _ 25 25 (Cl.arr c0) _ 8 ((((Blk.new w 25 _).new2 _).new2 _).row_ _) Tryz.underlying25 rfl (by kernel_rfl) (by simp [Cl.arr]))) rfl ?_
  exact ⟨⟨c0, rfl, fun _ h => by cases h⟩, Below.setRow ((((Below.refl _ _).alloc (Nat.le_refl _) _).alloc (Nat.le_of_lt (Blk.new w 25 _).lt) _).alloc (Nat.le_of_lt ((Blk.new w 25 _).new2 _).lt) _) (Nat.le_refl _) _⟩

set_option maxRecDepth 100000 in
set_option maxHeartbeats 4000000 in
theorem rc_def_Protect (w : World) (g off n c : Nat) (x : Wd) (hc : w.cell? ⟨g, off, none⟩ = some (.string (bs x))) (hg : g < w.heap.size) (hx : x = kProtect) (hn : n ≠ 4) (h0 : 0 < n) :
    Calls Tryz.prog 31 #[.slice (some ⟨g, off, none⟩) n c] w fun e w' => RcPost none e ∧ Below w.heap.size w w' := by
  obtain ⟨s, hs⟩ : ∃ s, bs x = s := ⟨_, rfl⟩
  have htl : s.toList = x := by rw [← hs]; exact bs_toList x
  rw [hs] at hc
  have hg1 : g < w.heap.size + 1 := by omega
  have hg2' : g < w.heap.size + 1 + 1 := by omega
  clear hs
  subst hx
  have hn1 : ((n : Int) == 4) = false := by rw [beq_eq_false_iff_ne]; omega
  have hl1 : w.heap.size < w.heap.size + 1 + 1 := by omega
  go_enter Tryz.func31, Tryz.ntmps31
  go_wp2_with fail
  refine bodyPost_ret (results_cellTmp rfl _ _ rfl (run_loadVar_blk _ _ _ 25 25 (Cl.arr c0) _ 8 ((((Blk.new w 25 _).new2 _).new2 _).row_ _) Tryz.underlying25 rfl (by kernel_rfl) (by simp [Cl.arr]))) rfl ?_
  exact ⟨⟨c0, rfl, fun _ h => by cases h⟩, Below.setRow ((((Below.refl _ _).alloc (Nat.le_refl _) _).alloc (Nat.le_of_lt (Blk.new w 25 _).lt) _).alloc (Nat.le_of_lt ((Blk.new w 25 _).new2 _).lt) _) (Nat.le_refl _) _⟩

set_option maxRecDepth 100000 in
set_option maxHeartbeats 4000000 in
theorem rc_def_Unmap (w : World) (g off n c : Nat) (x : Wd) (hc : w.cell? ⟨g, off, none⟩ = some (.string (bs x))) (hg : g < w.heap.size) (hx : x = kUnmap) (hn : n ≠ 3) (h0 : 0 < n) :
    Calls Tryz.prog 31 #[.slice (some ⟨g, off, none⟩) n c] w fun e w' => RcPost none e ∧ Below w.heap.size w w' := by
  obtain ⟨s, hs⟩ : ∃ s, bs x = s := ⟨_, rfl⟩
  have htl : s.toList = x := by rw [← hs]; exact bs_toList x
  rw [hs] at hc
  have hg1 : g < w.heap.size + 1 := by omega
  have hg2' : g < w.heap.size + 1 + 1 := by omega
  clear hs
  subst hx
  have hn1 : ((n : Int) == 3) = false := by rw [beq_eq_false_iff_ne]; omega
  have hl1 : w.heap.size < w.heap.size + 1 + 1 := by omega
  go_enter Tryz.func31, Tryz.ntmps31
  go_wp2_with fail
  refine bodyPost_ret (results_cellTmp rfl _ _ rfl (run_loadVar_blk _ _ _ 25 25 (Cl.arr c0) _ 8 ((((Blk.new w 25 _).new2 _).new2 _).row_ _) Tryz.underlying25 rfl (by kernel_rfl) (by simp [Cl.arr]))) rfl ?_
  exact ⟨⟨c0, rfl, fun _ h => by cases h⟩, Below.setRow ((((Below.refl _ _).alloc (Nat.le_refl _) _).alloc (Nat.le_of_lt (Blk.new w 25 _).lt) _).alloc (Nat.le_of_lt ((Blk.new w 25 _).new2 _).lt) _) (Nat.le_refl _) _⟩

set_option maxRecDepth 100000 in
set_option maxHeartbeats 4000000 in
theorem rc_def_Load (w : World) (g off n c : Nat) (x : Wd) (hc : w.cell? ⟨g, off, none⟩ = some (.string (bs x))) (hg : g < w.heap.size) (hx : x = kLoad) (hn : n ≠ 2) (h0 : 0 < n) :
    Calls Tryz.prog 31 #[.slice (some ⟨g, off, none⟩) n c] w fun e w' => RcPost none e ∧ Below w.heap.size w w' := by
  obtain ⟨s, hs⟩ : ∃ s, bs x = s := ⟨_, rfl⟩
  have htl : s.toList = x := by rw [← hs]; exact bs_toList x
  rw [hs] at hc
  have hg1 : g < w.heap.size + 1 := by omega
  have hg2' : g < w.heap.size + 1 + 1 := by omega
  clear hs
  subst hx
  have hn1 : ((n : Int) == 2) = false := by rw [beq_eq_false_iff_ne]; omega
  have hl1 : w.heap.size < w.heap.size + 1 + 1 := by omega
  go_enter Tryz.func31, Tryz.ntmps31
  go_wp2_with fail
  refine bodyPost_ret (results_cellTmp rfl _ _ rfl (run_loadVar_blk _ _ _ 25 25 (Cl.arr c0) _ 8 ((((Blk.new w 25 _).new2 _).new2 _).row_ _) Tryz.underlying25 rfl (by kernel_rfl) (by simp [Cl.arr]))) rfl ?_
  exact ⟨⟨c0, rfl, fun _ h => by cases h⟩, Below.setRow ((((Below.refl _ _).alloc (Nat.le_refl _) _).alloc (Nat.le_of_lt (Blk.new w 25 _).lt) _).alloc (Nat.le_of_lt ((Blk.new w 25 _).new2 _).lt) _) (Nat.le_refl _) _⟩

set_option maxRecDepth 100000 in
set_option maxHeartbeats 4000000 in
theorem rc_def_Store (w : World) (g off n c : Nat) (x : Wd) (hc : w.cell? ⟨g, off, none⟩ = some (.string (bs x))) (hg : g < w.heap.size) (hx : x = kStore) (hn : n ≠ 3) (h0 : 0 < n) :
    Calls Tryz.prog 31 #[.slice (some ⟨g, off, none⟩) n c] w fun e w' => RcPost none e ∧ Below w.heap.size w w' := by
  obtain ⟨s, hs⟩ : ∃ s, bs x = s := ⟨_, rfl⟩
  have htl : s.toList = x := by rw [← hs]; exact bs_toList x
  rw [hs] at hc
  have hg1 : g < w.heap.size + 1 := by omega
  have hg2' : g < w.heap.size + 1 + 1 := by omega
  clear hs
  subst hx
  have hn1 : ((n : Int) == 3) = false := by rw [beq_eq_false_iff_ne]; omega
  have hl1 : w.heap.size < w.heap.size + 1 + 1 := by omega
  go_enter Tryz.func31, Tryz.ntmps31
  go_wp2_with fail
  refine bodyPost_ret (results_cellTmp rfl _ _ rfl (run_loadVar_blk _ _ _ 25 25 (Cl.arr c0) _ 8 ((((Blk.new w 25 _).new2 _).new2 _).row_ _) Tryz.underlying25 rfl (by kernel_rfl) (by simp [Cl.arr]))) rfl ?_
  exact ⟨⟨c0, rfl, fun _ h => by cases h⟩, Below.setRow ((((Below.refl _ _).alloc (Nat.le_refl _) _).alloc (Nat.le_of_lt (Blk.new w 25 _).lt) _).alloc (Nat.le_of_lt ((Blk.new w 25 _).new2 _).lt) _) (Nat.le_refl _) _⟩

set_option maxRecDepth 100000 in
set_option maxHeartbeats 4000000 in
theorem rc_def_other (w : World) (g off n c : Nat) (x : Wd) (hc : w.cell? ⟨g, off, none⟩ = some (.string (bs x))) (hg : g < w.heap.size) (hLoad : x ≠ kLoad) (hStore : x ≠ kStore) (hMap : x ≠ kMap) (hUnmap : x ≠ kUnmap) (hProtect : x ≠ kProtect) (hBind : x ≠ kBind) (h0 : 0 < n) :
    Calls Tryz.prog 31 #[.slice (some ⟨g, off, none⟩) n c] w fun e w' => RcPost none e ∧ Below w.heap.size w w' := by
  obtain ⟨s, hs⟩ : ∃ s, bs x = s := ⟨_, rfl⟩
  have htl : s.toList = x := by rw [← hs]; exact bs_toList x
  rw [hs] at hc
  have hg1 : g < w.heap.size + 1 := by omega
  have hg2' : g < w.heap.size + 1 + 1 := by omega
  clear hs
  have gLoad : (x == [108, 111, 97, 100]) = false := by simpa using hLoad
  have gStore : (x == [115, 116, 111, 114, 101]) = false := by simpa using hStore
  have gMap : (x == [109, 97, 112]) = false := by simpa using hMap
  have gUnmap : (x == [117, 110, 109, 97, 112]) = false := by simpa using hUnmap
  have gProtect : (x == [112, 114, 111, 116, 101, 99, 116]) = false := by simpa using hProtect
  have gBind : (x == [98, 105, 110, 100]) = false := by simpa using hBind
  have hl1 : w.heap.size < w.heap.size + 1 + 1 := by omega
  go_enter Tryz.func31, Tryz.ntmps31
  go_wp2_with fail
  refine bodyPost_ret (results_cellTmp rfl _ _ rfl (run_loadVar_blk _ _ _ 25 25 (Cl.arr c0) _ 8 ((((Blk.new w 25 _).new2 _).new2 _).row_ _) Tryz.underlying25 rfl (by kernel_rfl) (by simp [Cl.arr]))) rfl ?_
  exact ⟨⟨c0, rfl, fun _ h => by cases h⟩, Below.setRow ((((Below.refl _ _).alloc (Nat.le_refl _) _).alloc (Nat.le_of_lt (Blk.new w 25 _).lt) _).alloc (Nat.le_of_lt ((Blk.new w 25 _).new2 _).lt) _) (Nat.le_refl _) _⟩

set_option maxRecDepth 100000 in
set_option maxHeartbeats 4000000 in
theorem rc_bad_Load (w : World) (g off n c : Nat) (x : Wd) (hc : w.cell? ⟨g, off, none⟩ = some (.string (bs x))) (hg : g < w.heap.size) (hx : x = kLoad) (hn : n = 2) (a1 : Option Addr) (n1 c1 : Nat) (l1 : List Wd) (hs1 : ∀ W, (Instr.slice 48 (.slice (some ⟨g, off, none⟩) n c) (some (.int .i64 1)) none none).run Tryz.prog W = .ok (.slice a1 n1 c1) W) (hq1 : StrAt w (.slice a1 n1 c1) l1) (hl1 : l1.length < 4294967296) (hN : numsR l1 = none) :
    Calls Tryz.prog 31 #[.slice (some ⟨g, off, none⟩) n c] w fun e w' => RcPost none e ∧ Below w.heap.size w w' := by
  obtain ⟨s, hs⟩ : ∃ s, bs x = s := ⟨_, rfl⟩
  have htl : s.toList = x := by rw [← hs]; exact bs_toList x
  rw [hs] at hc
  have hg1 : g < w.heap.size + 1 := by omega
  have hg2' : g < w.heap.size + 1 + 1 := by omega
  clear hs
  have B2 : Below w.heap.size w (((w.alloc (.cells #[.int .i64 0, .int .i64 0, .int .i64 0, .int .i64 0, .int .i64 0, .int .i64 0, .int .i64 0, .int .i64 0] 25)).alloc (.cells #[.int .i64 0, .int .i64 0, .int .i64 0, .int .i64 0, .int .i64 0, .int .i64 0, .int .i64 0, .int .i64 0] 25)).alloc (.cells #[] 9)) := (((Below.refl _ _).alloc (Nat.le_refl _) _).alloc (Nat.le_of_lt (Blk.new w 25 _).lt) _).alloc (Nat.le_of_lt ((Blk.new w 25 _).new2 _).lt) _
  have hnn := numbers_r (((w.alloc (.cells #[.int .i64 0, .int .i64 0, .int .i64 0, .int .i64 0, .int .i64 0, .int .i64 0, .int .i64 0, .int .i64 0] 25)).alloc (.cells #[.int .i64 0, .int .i64 0, .int .i64 0, .int .i64 0, .int .i64 0, .int .i64 0, .int .i64 0, .int .i64 0] 25)).alloc (.cells #[] 9)) _ l1 (hq1.below B2) hl1
  rw [hN] at hnn
  unfold NumsPost at hnn
  simp only at hnn
  have HNN := Lib.hid hnn
  have HB2 := Lib.hid B2
  have P2 : Blk (((w.alloc (.cells #[.int .i64 0, .int .i64 0, .int .i64 0, .int .i64 0, .int .i64 0, .int .i64 0, .int .i64 0, .int .i64 0] 25)).alloc (.cells #[.int .i64 0, .int .i64 0, .int .i64 0, .int .i64 0, .int .i64 0, .int .i64 0, .int .i64 0, .int .i64 0] 25)).alloc (.cells #[] 9)) w.heap.size 25 #[.int .i64 0, .int .i64 0, .int .i64 0, .int .i64 0, .int .i64 0, .int .i64 0, .int .i64 0, .int .i64 0] := ((Blk.new _ _ _).new2 _).new2 _
  have Q2 : Blk (((w.alloc (.cells #[.int .i64 0, .int .i64 0, .int .i64 0, .int .i64 0, .int .i64 0, .int .i64 0, .int .i64 0, .int .i64 0] 25)).alloc (.cells #[.int .i64 0, .int .i64 0, .int .i64 0, .int .i64 0, .int .i64 0, .int .i64 0, .int .i64 0, .int .i64 0] 25)).alloc (.cells #[] 9)) (w.heap.size + 1) 25 #[.int .i64 0, .int .i64 0, .int .i64 0, .int .i64 0, .int .i64 0, .int .i64 0, .int .i64 0, .int .i64 0] := by
    have := Blk.new (w.alloc (.cells #[.int .i64 0, .int .i64 0, .int .i64 0, .int .i64 0, .int .i64 0, .int .i64 0, .int .i64 0, .int .i64 0] 25)) 25 #[.int .i64 0, .int .i64 0, .int .i64 0, .int .i64 0, .int .i64 0, .int .i64 0, .int .i64 0, .int .i64 0]
    rw [World.size_alloc] at this
    exact this.new2 _
  have HP2 := Lib.hid P2
  have HQ2 := Lib.hid Q2
  have nq : w.heap.size + 1 ≠ w.heap.size := fun e => (by omega)
  clear hnn hN B2 P2 Q2 hq1
  subst hn
  subst hx
  go_enter Tryz.func31, Tryz.ntmps31
  go_wp2_with (first
    | (go_at_call 32; refine (HNN.out).mono ?_; rintro e w3 ⟨rfl, B⟩; have P : Blk w3 w.heap.size 25 #[.int .i64 0, .int .i64 0, .int .i64 0, .int .i64 0, .int .i64 0, .int .i64 0, .int .i64 0, .int .i64 0] := HP2.out.below B HP2.out.lt; have Q : Blk w3 (w.heap.size + 1) 25 #[.int .i64 0, .int .i64 0, .int .i64 0, .int .i64 0, .int .i64 0, .int .i64 0, .int .i64 0, .int .i64 0] := HQ2.out.below B HQ2.out.lt; have kr3 := P.rowOf; have kp3 := P.plain; have kl3 := P.lt; have qr3 := Q.rowOf; have qp3 := Q.plain; have ql3 := Q.lt; have BB := (HB2.out).trans (B.mono (by simp; omega)); have hx3 : w3.cell? ⟨g, off, none⟩ = some (.string s) := (BB.cell (p := ⟨g, off, none⟩) hg).trans hc; have hgl3 : g < w3.heap.size := Nat.lt_of_lt_of_le hg BB.size; have HP3 := Lib.hid P; have HQ3 := Lib.hid Q; have HB3 := Lib.hid BB; clear P Q B BB))
  refine bodyPost_ret (results_cellTmp rfl _ _ rfl (run_loadVar_blk _ _ _ 25 25 (Cl.arr c0) _ 8 (HP3.out.row_ _) Tryz.underlying25 rfl (by kernel_rfl) (by simp [Cl.arr]))) rfl ?_
  exact ⟨⟨c0, rfl, fun _ h => by cases h⟩, Below.setRow HB3.out (Nat.le_refl _) _⟩

set_option maxRecDepth 100000 in
set_option maxHeartbeats 4000000 in
theorem rc_bad_Store (w : World) (g off n c : Nat) (x : Wd) (hc : w.cell? ⟨g, off, none⟩ = some (.string (bs x))) (hg : g < w.heap.size) (hx : x = kStore) (hn : n = 3) (a1 : Option Addr) (n1 c1 : Nat) (l1 : List Wd) (hs1 : ∀ W, (Instr.slice 48 (.slice (some ⟨g, off, none⟩) n c) (some (.int .i64 1)) none none).run Tryz.prog W = .ok (.slice a1 n1 c1) W) (hq1 : StrAt w (.slice a1 n1 c1) l1) (hl1 : l1.length < 4294967296) (hN : numsR l1 = none) :
    Calls Tryz.prog 31 #[.slice (some ⟨g, off, none⟩) n c] w fun e w' => RcPost none e ∧ Below w.heap.size w w' := by
  obtain ⟨s, hs⟩ : ∃ s, bs x = s := ⟨_, rfl⟩
  have htl : s.toList = x := by rw [← hs]; exact bs_toList x
  rw [hs] at hc
  have hg1 : g < w.heap.size + 1 := by omega
  have hg2' : g < w.heap.size + 1 + 1 := by omega
  clear hs
  have B2 : Below w.heap.size w (((w.alloc (.cells #[.int .i64 0, .int .i64 0, .int .i64 0, .int .i64 0, .int .i64 0, .int .i64 0, .int .i64 0, .int .i64 0] 25)).alloc (.cells #[.int .i64 0, .int .i64 0, .int .i64 0, .int .i64 0, .int .i64 0, .int .i64 0, .int .i64 0, .int .i64 0] 25)).alloc (.cells #[] 9)) := (((Below.refl _ _).alloc (Nat.le_refl _) _).alloc (Nat.le_of_lt (Blk.new w 25 _).lt) _).alloc (Nat.le_of_lt ((Blk.new w 25 _).new2 _).lt) _
  have hnn := numbers_r (((w.alloc (.cells #[.int .i64 0, .int .i64 0, .int .i64 0, .int .i64 0, .int .i64 0, .int .i64 0, .int .i64 0, .int .i64 0] 25)).alloc (.cells #[.int .i64 0, .int .i64 0, .int .i64 0, .int .i64 0, .int .i64 0, .int .i64 0, .int .i64 0, .int .i64 0] 25)).alloc (.cells #[] 9)) _ l1 (hq1.below B2) hl1
  rw [hN] at hnn
  unfold NumsPost at hnn
  simp only at hnn
  have HNN := Lib.hid hnn
  have HB2 := Lib.hid B2
  have P2 : Blk (((w.alloc (.cells #[.int .i64 0, .int .i64 0, .int .i64 0, .int .i64 0, .int .i64 0, .int .i64 0, .int .i64 0, .int .i64 0] 25)).alloc (.cells #[.int .i64 0, .int .i64 0, .int .i64 0, .int .i64 0, .int .i64 0, .int .i64 0, .int .i64 0, .int .i64 0] 25)).alloc (.cells #[] 9)) w.heap.size 25 #[.int .i64 0, .int .i64 0, .int .i64 0, .int .i64 0, .int .i64 0, .int .i64 0, .int .i64 0, .int .i64 0] := ((Blk.new _ _ _).new2 _).new2 _
  have Q2 : Blk (((w.alloc (.cells #[.int .i64 0, .int .i64 0, .int .i64 0, .int .i64 0, .int .i64 0, .int .i64 0, .int .i64 0, .int .i64 0] 25)).alloc (.cells #[.int .i64 0, .int .i64 0, .int .i64 0, .int .i64 0, .int .i64 0, .int .i64 0, .int .i64 0, .int .i64 0] 25)).alloc (.cells #[] 9)) (w.heap.size + 1) 25 #[.int .i64 0, .int .i64 0, .int .i64 0, .int .i64 0, .int .i64 0, .int .i64 0, .int .i64 0, .int .i64 0] := by
    have := Blk.new (w.alloc (.cells #[.int .i64 0, .int .i64 0, .int .i64 0, .int .i64 0, .int .i64 0, .int .i64 0, .int .i64 0, .int .i64 0] 25)) 25 #[.int .i64 0, .int .i64 0, .int .i64 0, .int .i64 0, .int .i64 0, .int .i64 0, .int .i64 0, .int .i64 0]
    rw [World.size_alloc] at this
    exact this.new2 _
  have HP2 := Lib.hid P2
  have HQ2 := Lib.hid Q2
  have nq : w.heap.size + 1 ≠ w.heap.size := fun e => (by omega)
  clear hnn hN B2 P2 Q2 hq1
  subst hn
  subst hx
  go_enter Tryz.func31, Tryz.ntmps31
  go_wp2_with (first
    | (go_at_call 32; refine (HNN.out).mono ?_; rintro e w3 ⟨rfl, B⟩; have P : Blk w3 w.heap.size 25 #[.int .i64 0, .int .i64 0, .int .i64 0, .int .i64 0, .int .i64 0, .int .i64 0, .int .i64 0, .int .i64 0] := HP2.out.below B HP2.out.lt; have Q : Blk w3 (w.heap.size + 1) 25 #[.int .i64 0, .int .i64 0, .int .i64 0, .int .i64 0, .int .i64 0, .int .i64 0, .int .i64 0, .int .i64 0] := HQ2.out.below B HQ2.out.lt; have kr3 := P.rowOf; have kp3 := P.plain; have kl3 := P.lt; have qr3 := Q.rowOf; have qp3 := Q.plain; have ql3 := Q.lt; have BB := (HB2.out).trans (B.mono (by simp; omega)); have hx3 : w3.cell? ⟨g, off, none⟩ = some (.string s) := (BB.cell (p := ⟨g, off, none⟩) hg).trans hc; have hgl3 : g < w3.heap.size := Nat.lt_of_lt_of_le hg BB.size; have HP3 := Lib.hid P; have HQ3 := Lib.hid Q; have HB3 := Lib.hid BB; clear P Q B BB))
  refine bodyPost_ret (results_cellTmp rfl _ _ rfl (run_loadVar_blk _ _ _ 25 25 (Cl.arr c0) _ 8 (HP3.out.row_ _) Tryz.underlying25 rfl (by kernel_rfl) (by simp [Cl.arr]))) rfl ?_
  exact ⟨⟨c0, rfl, fun _ h => by cases h⟩, Below.setRow HB3.out (Nat.le_refl _) _⟩

set_option maxRecDepth 100000 in
set_option maxHeartbeats 4000000 in
theorem rc_bad_Unmap (w : World) (g off n c : Nat) (x : Wd) (hc : w.cell? ⟨g, off, none⟩ = some (.string (bs x))) (hg : g < w.heap.size) (hx : x = kUnmap) (hn : n = 3) (a1 : Option Addr) (n1 c1 : Nat) (l1 : List Wd) (hs1 : ∀ W, (Instr.slice 48 (.slice (some ⟨g, off, none⟩) n c) (some (.int .i64 1)) (some (.int .i64 3)) none).run Tryz.prog W = .ok (.slice a1 n1 c1) W) (hq1 : StrAt w (.slice a1 n1 c1) l1) (hl1 : l1.length < 4294967296) (a2 : Option Addr) (n2 c2 : Nat) (hs2 : ∀ W, (Instr.slice 48 (.slice (some ⟨g, off, none⟩) n c) (some (.int .i64 3)) none none).run Tryz.prog W = .ok (.slice a2 n2 c2) W) (hN : numsR l1 = none) :
    Calls Tryz.prog 31 #[.slice (some ⟨g, off, none⟩) n c] w fun e w' => RcPost none e ∧ Below w.heap.size w w' := by
  obtain ⟨s, hs⟩ : ∃ s, bs x = s := ⟨_, rfl⟩
  have htl : s.toList = x := by rw [← hs]; exact bs_toList x
  rw [hs] at hc
  have hg1 : g < w.heap.size + 1 := by omega
  have hg2' : g < w.heap.size + 1 + 1 := by omega
  clear hs
  have B2 : Below w.heap.size w (((w.alloc (.cells #[.int .i64 0, .int .i64 0, .int .i64 0, .int .i64 0, .int .i64 0, .int .i64 0, .int .i64 0, .int .i64 0] 25)).alloc (.cells #[.int .i64 0, .int .i64 0, .int .i64 0, .int .i64 0, .int .i64 0, .int .i64 0, .int .i64 0, .int .i64 0] 25)).alloc (.cells #[] 9)) := (((Below.refl _ _).alloc (Nat.le_refl _) _).alloc (Nat.le_of_lt (Blk.new w 25 _).lt) _).alloc (Nat.le_of_lt ((Blk.new w 25 _).new2 _).lt) _
  have hnn := numbers_r (((w.alloc (.cells #[.int .i64 0, .int .i64 0, .int .i64 0, .int .i64 0, .int .i64 0, .int .i64 0, .int .i64 0, .int .i64 0] 25)).alloc (.cells #[.int .i64 0, .int .i64 0, .int .i64 0, .int .i64 0, .int .i64 0, .int .i64 0, .int .i64 0, .int .i64 0] 25)).alloc (.cells #[] 9)) _ l1 (hq1.below B2) hl1
  rw [hN] at hnn
  unfold NumsPost at hnn
  simp only at hnn
  have HNN := Lib.hid hnn
  have HB2 := Lib.hid B2
  have P2 : Blk (((w.alloc (.cells #[.int .i64 0, .int .i64 0, .int .i64 0, .int .i64 0, .int .i64 0, .int .i64 0, .int .i64 0, .int .i64 0] 25)).alloc (.cells #[.int .i64 0, .int .i64 0, .int .i64 0, .int .i64 0, .int .i64 0, .int .i64 0, .int .i64 0, .int .i64 0] 25)).alloc (.cells #[] 9)) w.heap.size 25 #[.int .i64 0, .int .i64 0, .int .i64 0, .int .i64 0, .int .i64 0, .int .i64 0, .int .i64 0, .int .i64 0] := ((Blk.new _ _ _).new2 _).new2 _
  have Q2 : Blk (((w.alloc (.cells #[.int .i64 0, .int .i64 0, .int .i64 0, .int .i64 0, .int .i64 0, .int .i64 0, .int .i64 0, .int .i64 0] 25)).alloc (.cells #[.int .i64 0, .int .i64 0, .int .i64 0, .int .i64 0, .int .i64 0, .int .i64 0, .int .i64 0, .int .i64 0] 25)).alloc (.cells #[] 9)) (w.heap.size + 1) 25 #[.int .i64 0, .int .i64 0, .int .i64 0, .int .i64 0, .int .i64 0, .int .i64 0, .int .i64 0, .int .i64 0] := by
    have := Blk.new (w.alloc (.cells #[.int .i64 0, .int .i64 0, .int .i64 0, .int .i64 0, .int .i64 0, .int .i64 0, .int .i64 0, .int .i64 0] 25)) 25 #[.int .i64 0, .int .i64 0, .int .i64 0, .int .i64 0, .int .i64 0, .int .i64 0, .int .i64 0, .int .i64 0]
    rw [World.size_alloc] at this
    exact this.new2 _
  have HP2 := Lib.hid P2
  have HQ2 := Lib.hid Q2
  have nq : w.heap.size + 1 ≠ w.heap.size := fun e => (by omega)
  clear hnn hN B2 P2 Q2 hq1
  subst hn
  subst hx
  go_enter Tryz.func31, Tryz.ntmps31
  go_wp2_with (first
    | (go_at_call 32; refine (HNN.out).mono ?_; rintro e w3 ⟨rfl, B⟩; have P : Blk w3 w.heap.size 25 #[.int .i64 0, .int .i64 0, .int .i64 0, .int .i64 0, .int .i64 0, .int .i64 0, .int .i64 0, .int .i64 0] := HP2.out.below B HP2.out.lt; have Q : Blk w3 (w.heap.size + 1) 25 #[.int .i64 0, .int .i64 0, .int .i64 0, .int .i64 0, .int .i64 0, .int .i64 0, .int .i64 0, .int .i64 0] := HQ2.out.below B HQ2.out.lt; have kr3 := P.rowOf; have kp3 := P.plain; have kl3 := P.lt; have qr3 := Q.rowOf; have qp3 := Q.plain; have ql3 := Q.lt; have BB := (HB2.out).trans (B.mono (by simp; omega)); have hx3 : w3.cell? ⟨g, off, none⟩ = some (.string s) := (BB.cell (p := ⟨g, off, none⟩) hg).trans hc; have hgl3 : g < w3.heap.size := Nat.lt_of_lt_of_le hg BB.size; have HP3 := Lib.hid P; have HQ3 := Lib.hid Q; have HB3 := Lib.hid BB; clear P Q B BB))
  refine bodyPost_ret (results_cellTmp rfl _ _ rfl (run_loadVar_blk _ _ _ 25 25 (Cl.arr c0) _ 8 (HP3.out.row_ _) Tryz.underlying25 rfl (by kernel_rfl) (by simp [Cl.arr]))) rfl ?_
  exact ⟨⟨c0, rfl, fun _ h => by cases h⟩, Below.setRow HB3.out (Nat.le_refl _) _⟩

set_option maxRecDepth 100000 in
set_option maxHeartbeats 4000000 in
theorem rc_bad_Protect (w : World) (g off n c : Nat) (x : Wd) (hc : w.cell? ⟨g, off, none⟩ = some (.string (bs x))) (hg : g < w.heap.size) (hx : x = kProtect) (hn : n = 4) (a1 : Option Addr) (n1 c1 : Nat) (l1 : List Wd) (hs1 : ∀ W, (Instr.slice 48 (.slice (some ⟨g, off, none⟩) n c) (some (.int .i64 1)) (some (.int .i64 3)) none).run Tryz.prog W = .ok (.slice a1 n1 c1) W) (hq1 : StrAt w (.slice a1 n1 c1) l1) (hl1 : l1.length < 4294967296) (a2 : Option Addr) (n2 c2 : Nat) (hs2 : ∀ W, (Instr.slice 48 (.slice (some ⟨g, off, none⟩) n c) (some (.int .i64 3)) none none).run Tryz.prog W = .ok (.slice a2 n2 c2) W) (hN : numsR l1 = none) :
    Calls Tryz.prog 31 #[.slice (some ⟨g, off, none⟩) n c] w fun e w' => RcPost none e ∧ Below w.heap.size w w' := by
  obtain ⟨s, hs⟩ : ∃ s, bs x = s := ⟨_, rfl⟩
  have htl : s.toList = x := by rw [← hs]; exact bs_toList x
  rw [hs] at hc
  have hg1 : g < w.heap.size + 1 := by omega
  have hg2' : g < w.heap.size + 1 + 1 := by omega
  clear hs
  have B2 : Below w.heap.size w (((w.alloc (.cells #[.int .i64 0, .int .i64 0, .int .i64 0, .int .i64 0, .int .i64 0, .int .i64 0, .int .i64 0, .int .i64 0] 25)).alloc (.cells #[.int .i64 0, .int .i64 0, .int .i64 0, .int .i64 0, .int .i64 0, .int .i64 0, .int .i64 0, .int .i64 0] 25)).alloc (.cells #[] 9)) := (((Below.refl _ _).alloc (Nat.le_refl _) _).alloc (Nat.le_of_lt (Blk.new w 25 _).lt) _).alloc (Nat.le_of_lt ((Blk.new w 25 _).new2 _).lt) _
  have hnn := numbers_r (((w.alloc (.cells #[.int .i64 0, .int .i64 0, .int .i64 0, .int .i64 0, .int .i64 0, .int .i64 0, .int .i64 0, .int .i64 0] 25)).alloc (.cells #[.int .i64 0, .int .i64 0, .int .i64 0, .int .i64 0, .int .i64 0, .int .i64 0, .int .i64 0, .int .i64 0] 25)).alloc (.cells #[] 9)) _ l1 (hq1.below B2) hl1
  rw [hN] at hnn
  unfold NumsPost at hnn
  simp only at hnn
  have HNN := Lib.hid hnn
  have HB2 := Lib.hid B2
  have P2 : Blk (((w.alloc (.cells #[.int .i64 0, .int .i64 0, .int .i64 0, .int .i64 0, .int .i64 0, .int .i64 0, .int .i64 0, .int .i64 0] 25)).alloc (.cells #[.int .i64 0, .int .i64 0, .int .i64 0, .int .i64 0, .int .i64 0, .int .i64 0, .int .i64 0, .int .i64 0] 25)).alloc (.cells #[] 9)) w.heap.size 25 #[.int .i64 0, .int .i64 0, .int .i64 0, .int .i64 0, .int .i64 0, .int .i64 0, .int .i64 0, .int .i64 0] := ((Blk.new _ _ _).new2 _).new2 _
  have Q2 : Blk (((w.alloc (.cells #[.int .i64 0, .int .i64 0, .int .i64 0, .int .i64 0, .int .i64 0, .int .i64 0, .int .i64 0, .int .i64 0] 25)).alloc (.cells #[.int .i64 0, .int .i64 0, .int .i64 0, .int .i64 0, .int .i64 0, .int .i64 0, .int .i64 0, .int .i64 0] 25)).alloc (.cells #[] 9)) (w.heap.size + 1) 25 #[.int .i64 0, .int .i64 0, .int .i64 0, .int .i64 0, .int .i64 0, .int .i64 0, .int .i64 0, .int .i64 0] := by
    have := Blk.new (w.alloc (.cells #[.int .i64 0, .int .i64 0, .int .i64 0, .int .i64 0, .int .i64 0, .int .i64 0, .int .i64 0, .int .i64 0] 25)) 25 #[.int .i64 0, .int .i64 0, .int .i64 0, .int .i64 0, .int .i64 0, .int .i64 0, .int .i64 0, .int .i64 0]
    rw [World.size_alloc] at this
    exact this.new2 _
  have HP2 := Lib.hid P2
  have HQ2 := Lib.hid Q2
  have nq : w.heap.size + 1 ≠ w.heap.size := fun e => (by omega)
  clear hnn hN B2 P2 Q2 hq1
  subst hn
  subst hx
  go_enter Tryz.func31, Tryz.ntmps31
  go_wp2_with (first
    | (go_at_call 32; refine (HNN.out).mono ?_; rintro e w3 ⟨rfl, B⟩; have P : Blk w3 w.heap.size 25 #[.int .i64 0, .int .i64 0, .int .i64 0, .int .i64 0, .int .i64 0, .int .i64 0, .int .i64 0, .int .i64 0] := HP2.out.below B HP2.out.lt; have Q : Blk w3 (w.heap.size + 1) 25 #[.int .i64 0, .int .i64 0, .int .i64 0, .int .i64 0, .int .i64 0, .int .i64 0, .int .i64 0, .int .i64 0] := HQ2.out.below B HQ2.out.lt; have kr3 := P.rowOf; have kp3 := P.plain; have kl3 := P.lt; have qr3 := Q.rowOf; have qp3 := Q.plain; have ql3 := Q.lt; have BB := (HB2.out).trans (B.mono (by simp; omega)); have hx3 : w3.cell? ⟨g, off, none⟩ = some (.string s) := (BB.cell (p := ⟨g, off, none⟩) hg).trans hc; have hgl3 : g < w3.heap.size := Nat.lt_of_lt_of_le hg BB.size; have HP3 := Lib.hid P; have HQ3 := Lib.hid Q; have HB3 := Lib.hid BB; clear P Q B BB))
  refine bodyPost_ret (results_cellTmp rfl _ _ rfl (run_loadVar_blk _ _ _ 25 25 (Cl.arr c0) _ 8 (HP3.out.row_ _) Tryz.underlying25 rfl (by kernel_rfl) (by simp [Cl.arr]))) rfl ?_
  exact ⟨⟨c0, rfl, fun _ h => by cases h⟩, Below.setRow HB3.out (Nat.le_refl _) _⟩

set_option maxRecDepth 100000 in
set_option maxHeartbeats 4000000 in
theorem rc_bad_Bind (w : World) (g off n c : Nat) (x : Wd) (hc : w.cell? ⟨g, off, none⟩ = some (.string (bs x))) (hg : g < w.heap.size) (hx : x = kBind) (hn : 4 ≤ n) (a1 : Option Addr) (n1 c1 : Nat) (l1 : List Wd) (hs1 : ∀ W, (Instr.slice 48 (.slice (some ⟨g, off, none⟩) n c) (some (.int .i64 1)) (some (.int .i64 3)) none).run Tryz.prog W = .ok (.slice a1 n1 c1) W) (hq1 : StrAt w (.slice a1 n1 c1) l1) (hl1 : l1.length < 4294967296) (a2 : Option Addr) (n2 c2 : Nat) (hs2 : ∀ W, (Instr.slice 48 (.slice (some ⟨g, off, none⟩) n c) (some (.int .i64 3)) none none).run Tryz.prog W = .ok (.slice a2 n2 c2) W) (hN : numsR l1 = none) :
    Calls Tryz.prog 31 #[.slice (some ⟨g, off, none⟩) n c] w fun e w' => RcPost none e ∧ Below w.heap.size w w' := by
  obtain ⟨s, hs⟩ : ∃ s, bs x = s := ⟨_, rfl⟩
  have htl : s.toList = x := by rw [← hs]; exact bs_toList x
  rw [hs] at hc
  have hg1 : g < w.heap.size + 1 := by omega
  have hg2' : g < w.heap.size + 1 + 1 := by omega
  clear hs
  have B2 : Below w.heap.size w (((w.alloc (.cells #[.int .i64 0, .int .i64 0, .int .i64 0, .int .i64 0, .int .i64 0, .int .i64 0, .int .i64 0, .int .i64 0] 25)).alloc (.cells #[.int .i64 0, .int .i64 0, .int .i64 0, .int .i64 0, .int .i64 0, .int .i64 0, .int .i64 0, .int .i64 0] 25)).alloc (.cells #[] 9)) := (((Below.refl _ _).alloc (Nat.le_refl _) _).alloc (Nat.le_of_lt (Blk.new w 25 _).lt) _).alloc (Nat.le_of_lt ((Blk.new w 25 _).new2 _).lt) _
  have hnn := numbers_r (((w.alloc (.cells #[.int .i64 0, .int .i64 0, .int .i64 0, .int .i64 0, .int .i64 0, .int .i64 0, .int .i64 0, .int .i64 0] 25)).alloc (.cells #[.int .i64 0, .int .i64 0, .int .i64 0, .int .i64 0, .int .i64 0, .int .i64 0, .int .i64 0, .int .i64 0] 25)).alloc (.cells #[] 9)) _ l1 (hq1.below B2) hl1
  rw [hN] at hnn
  unfold NumsPost at hnn
  simp only at hnn
  have HNN := Lib.hid hnn
  have HB2 := Lib.hid B2
  have P2 : Blk (((w.alloc (.cells #[.int .i64 0, .int .i64 0, .int .i64 0, .int .i64 0, .int .i64 0, .int .i64 0, .int .i64 0, .int .i64 0] 25)).alloc (.cells #[.int .i64 0, .int .i64 0, .int .i64 0, .int .i64 0, .int .i64 0, .int .i64 0, .int .i64 0, .int .i64 0] 25)).alloc (.cells #[] 9)) w.heap.size 25 #[.int .i64 0, .int .i64 0, .int .i64 0, .int .i64 0, .int .i64 0, .int .i64 0, .int .i64 0, .int .i64 0] := ((Blk.new _ _ _).new2 _).new2 _
  have Q2 : Blk (((w.alloc (.cells #[.int .i64 0, .int .i64 0, .int .i64 0, .int .i64 0, .int .i64 0, .int .i64 0, .int .i64 0, .int .i64 0] 25)).alloc (.cells #[.int .i64 0, .int .i64 0, .int .i64 0, .int .i64 0, .int .i64 0, .int .i64 0, .int .i64 0, .int .i64 0] 25)).alloc (.cells #[] 9)) (w.heap.size + 1) 25 #[.int .i64 0, .int .i64 0, .int .i64 0, .int .i64 0, .int .i64 0, .int .i64 0, .int .i64 0, .int .i64 0] := by
    have := Blk.new (w.alloc (.cells #[.int .i64 0, .int .i64 0, .int .i64 0, .int .i64 0, .int .i64 0, .int .i64 0, .int .i64 0, .int .i64 0] 25)) 25 #[.int .i64 0, .int .i64 0, .int .i64 0, .int .i64 0, .int .i64 0, .int .i64 0, .int .i64 0, .int .i64 0]
    rw [World.size_alloc] at this
    exact this.new2 _
  have HP2 := Lib.hid P2
  have HQ2 := Lib.hid Q2
  have nq : w.heap.size + 1 ≠ w.heap.size := fun e => (by omega)
  clear hnn hN B2 P2 Q2 hq1
  subst hx
  go_enter Tryz.func31, Tryz.ntmps31
  go_wp2_with (first
    | (go_at_call 32; refine (HNN.out).mono ?_; rintro e w3 ⟨rfl, B⟩; have P : Blk w3 w.heap.size 25 #[.int .i64 0, .int .i64 0, .int .i64 0, .int .i64 0, .int .i64 0, .int .i64 0, .int .i64 0, .int .i64 0] := HP2.out.below B HP2.out.lt; have Q : Blk w3 (w.heap.size + 1) 25 #[.int .i64 0, .int .i64 0, .int .i64 0, .int .i64 0, .int .i64 0, .int .i64 0, .int .i64 0, .int .i64 0] := HQ2.out.below B HQ2.out.lt; have kr3 := P.rowOf; have kp3 := P.plain; have kl3 := P.lt; have qr3 := Q.rowOf; have qp3 := Q.plain; have ql3 := Q.lt; have BB := (HB2.out).trans (B.mono (by simp; omega)); have hx3 : w3.cell? ⟨g, off, none⟩ = some (.string s) := (BB.cell (p := ⟨g, off, none⟩) hg).trans hc; have hgl3 : g < w3.heap.size := Nat.lt_of_lt_of_le hg BB.size; have HP3 := Lib.hid P; have HQ3 := Lib.hid Q; have HB3 := Lib.hid BB; clear P Q B BB))
  refine bodyPost_ret (results_cellTmp rfl _ _ rfl (run_loadVar_blk _ _ _ 25 25 (Cl.arr c0) _ 8 (HP3.out.row_ _) Tryz.underlying25 rfl (by kernel_rfl) (by simp [Cl.arr]))) rfl ?_
  exact ⟨⟨c0, rfl, fun _ h => by cases h⟩, Below.setRow HB3.out (Nat.le_refl _) _⟩

set_option maxRecDepth 100000 in
set_option maxHeartbeats 4000000 in
theorem rc_bad_Map (w : World) (g off n c : Nat) (x : Wd) (hc : w.cell? ⟨g, off, none⟩ = some (.string (bs x))) (hg : g < w.heap.size) (hx : x = kMap) (hn : 5 ≤ n) (a1 : Option Addr) (n1 c1 : Nat) (l1 : List Wd) (hs1 : ∀ W, (Instr.slice 48 (.slice (some ⟨g, off, none⟩) n c) (some (.int .i64 1)) (some (.int .i64 3)) none).run Tryz.prog W = .ok (.slice a1 n1 c1) W) (hq1 : StrAt w (.slice a1 n1 c1) l1) (hl1 : l1.length < 4294967296) (a2 : Option Addr) (n2 c2 : Nat) (hs2 : ∀ W, (Instr.slice 48 (.slice (some ⟨g, off, none⟩) n c) (some (.int .i64 3)) none none).run Tryz.prog W = .ok (.slice a2 n2 c2) W) (hN : numsR l1 = none) :
    Calls Tryz.prog 31 #[.slice (some ⟨g, off, none⟩) n c] w fun e w' => RcPost none e ∧ Below w.heap.size w w' := by
  obtain ⟨s, hs⟩ : ∃ s, bs x = s := ⟨_, rfl⟩
  have htl : s.toList = x := by rw [← hs]; exact bs_toList x
  rw [hs] at hc
  have hg1 : g < w.heap.size + 1 := by omega
  have hg2' : g < w.heap.size + 1 + 1 := by omega
  clear hs
  have B2 : Below w.heap.size w (((w.alloc (.cells #[.int .i64 0, .int .i64 0, .int .i64 0, .int .i64 0, .int .i64 0, .int .i64 0, .int .i64 0, .int .i64 0] 25)).alloc (.cells #[.int .i64 0, .int .i64 0, .int .i64 0, .int .i64 0, .int .i64 0, .int .i64 0, .int .i64 0, .int .i64 0] 25)).alloc (.cells #[] 9)) := (((Below.refl _ _).alloc (Nat.le_refl _) _).alloc (Nat.le_of_lt (Blk.new w 25 _).lt) _).alloc (Nat.le_of_lt ((Blk.new w 25 _).new2 _).lt) _
  have hnn := numbers_r (((w.alloc (.cells #[.int .i64 0, .int .i64 0, .int .i64 0, .int .i64 0, .int .i64 0, .int .i64 0, .int .i64 0, .int .i64 0] 25)).alloc (.cells #[.int .i64 0, .int .i64 0, .int .i64 0, .int .i64 0, .int .i64 0, .int .i64 0, .int .i64 0, .int .i64 0] 25)).alloc (.cells #[] 9)) _ l1 (hq1.below B2) hl1
  rw [hN] at hnn
  unfold NumsPost at hnn
  simp only at hnn
  have HNN := Lib.hid hnn
  have HB2 := Lib.hid B2
  have P2 : Blk (((w.alloc (.cells #[.int .i64 0, .int .i64 0, .int .i64 0, .int .i64 0, .int .i64 0, .int .i64 0, .int .i64 0, .int .i64 0] 25)).alloc (.cells #[.int .i64 0, .int .i64 0, .int .i64 0, .int .i64 0, .int .i64 0, .int .i64 0, .int .i64 0, .int .i64 0] 25)).alloc (.cells #[] 9)) w.heap.size 25 #[.int .i64 0, .int .i64 0, .int .i64 0, .int .i64 0, .int .i64 0, .int .i64 0, .int .i64 0, .int .i64 0] := ((Blk.new _ _ _).new2 _).new2 _
  have Q2 : Blk (((w.alloc (.cells #[.int .i64 0, .int .i64 0, .int .i64 0, .int .i64 0, .int .i64 0, .int .i64 0, .int .i64 0, .int .i64 0] 25)).alloc (.cells #[.int .i64 0, .int .i64 0, .int .i64 0, .int .i64 0, .int .i64 0, .int .i64 0, .int .i64 0, .int .i64 0] 25)).alloc (.cells #[] 9)) (w.heap.size + 1) 25 #[.int .i64 0, .int .i64 0, .int .i64 0, .int .i64 0, .int .i64 0, .int .i64 0, .int .i64 0, .int .i64 0] := by
    have := Blk.new (w.alloc (.cells #[.int .i64 0, .int .i64 0, .int .i64 0, .int .i64 0, .int .i64 0, .int .i64 0, .int .i64 0, .int .i64 0] 25)) 25 #[.int .i64 0, .int .i64 0, .int .i64 0, .int .i64 0, .int .i64 0, .int .i64 0, .int .i64 0, .int .i64 0]
    rw [World.size_alloc] at this
    exact this.new2 _
  have HP2 := Lib.hid P2
  have HQ2 := Lib.hid Q2
  have nq : w.heap.size + 1 ≠ w.heap.size := fun e => (by omega)
  clear hnn hN B2 P2 Q2 hq1
  subst hx
  go_enter Tryz.func31, Tryz.ntmps31
  go_wp2_with (first
    | (go_at_call 32; refine (HNN.out).mono ?_; rintro e w3 ⟨rfl, B⟩; have P : Blk w3 w.heap.size 25 #[.int .i64 0, .int .i64 0, .int .i64 0, .int .i64 0, .int .i64 0, .int .i64 0, .int .i64 0, .int .i64 0] := HP2.out.below B HP2.out.lt; have Q : Blk w3 (w.heap.size + 1) 25 #[.int .i64 0, .int .i64 0, .int .i64 0, .int .i64 0, .int .i64 0, .int .i64 0, .int .i64 0, .int .i64 0] := HQ2.out.below B HQ2.out.lt; have kr3 := P.rowOf; have kp3 := P.plain; have kl3 := P.lt; have qr3 := Q.rowOf; have qp3 := Q.plain; have ql3 := Q.lt; have BB := (HB2.out).trans (B.mono (by simp; omega)); have hx3 : w3.cell? ⟨g, off, none⟩ = some (.string s) := (BB.cell (p := ⟨g, off, none⟩) hg).trans hc; have hgl3 : g < w3.heap.size := Nat.lt_of_lt_of_le hg BB.size; have HP3 := Lib.hid P; have HQ3 := Lib.hid Q; have HB3 := Lib.hid BB; clear P Q B BB))
  refine bodyPost_ret (results_cellTmp rfl _ _ rfl (run_loadVar_blk _ _ _ 25 25 (Cl.arr c0) _ 8 (HP3.out.row_ _) Tryz.underlying25 rfl (by kernel_rfl) (by simp [Cl.arr]))) rfl ?_
  exact ⟨⟨c0, rfl, fun _ h => by cases h⟩, Below.setRow HB3.out (Nat.le_refl _) _⟩

set_option maxRecDepth 100000 in
set_option maxHeartbeats 4000000 in
theorem rc_Load (w : World) (g off n c : Nat) (x : Wd) (hc : w.cell? ⟨g, off, none⟩ = some (.string (bs x))) (hg : g < w.heap.size) (hx : x = kLoad) (hn : n = 2) (a1 : Option Addr) (n1 c1 : Nat) (l1 : List Wd) (hs1 : ∀ W, (Instr.slice 48 (.slice (some ⟨g, off, none⟩) n c) (some (.int .i64 1)) none none).run Tryz.prog W = .ok (.slice a1 n1 c1) W) (hq1 : StrAt w (.slice a1 n1 c1) l1) (hl1 : l1.length < 4294967296) (p : Nat) (hN : numsR l1 = some [p]) :
    Calls Tryz.prog 31 #[.slice (some ⟨g, off, none⟩) n c] w fun e w' => RcPost (some { c0 with kind := 5, addr := (p : Int) }) e ∧ Below w.heap.size w w' := by
  obtain ⟨s, hs⟩ : ∃ s, bs x = s := ⟨_, rfl⟩
  have htl : s.toList = x := by rw [← hs]; exact bs_toList x
  rw [hs] at hc
  have hg1 : g < w.heap.size + 1 := by omega
  have hg2' : g < w.heap.size + 1 + 1 := by omega
  clear hs
  have B2 : Below w.heap.size w (((w.alloc (.cells #[.int .i64 0, .int .i64 0, .int .i64 0, .int .i64 0, .int .i64 0, .int .i64 0, .int .i64 0, .int .i64 0] 25)).alloc (.cells #[.int .i64 0, .int .i64 0, .int .i64 0, .int .i64 0, .int .i64 0, .int .i64 0, .int .i64 0, .int .i64 0] 25)).alloc (.cells #[] 9)) := (((Below.refl _ _).alloc (Nat.le_refl _) _).alloc (Nat.le_of_lt (Blk.new w 25 _).lt) _).alloc (Nat.le_of_lt ((Blk.new w 25 _).new2 _).lt) _
  have hnn := numbers_r (((w.alloc (.cells #[.int .i64 0, .int .i64 0, .int .i64 0, .int .i64 0, .int .i64 0, .int .i64 0, .int .i64 0, .int .i64 0] 25)).alloc (.cells #[.int .i64 0, .int .i64 0, .int .i64 0, .int .i64 0, .int .i64 0, .int .i64 0, .int .i64 0, .int .i64 0] 25)).alloc (.cells #[] 9)) _ l1 (hq1.below B2) hl1
  rw [hN] at hnn
  unfold NumsPost at hnn
  simp only at hnn
  have HNN := Lib.hid hnn
  have HB2 := Lib.hid B2
  have P2 : Blk (((w.alloc (.cells #[.int .i64 0, .int .i64 0, .int .i64 0, .int .i64 0, .int .i64 0, .int .i64 0, .int .i64 0, .int .i64 0] 25)).alloc (.cells #[.int .i64 0, .int .i64 0, .int .i64 0, .int .i64 0, .int .i64 0, .int .i64 0, .int .i64 0, .int .i64 0] 25)).alloc (.cells #[] 9)) w.heap.size 25 #[.int .i64 0, .int .i64 0, .int .i64 0, .int .i64 0, .int .i64 0, .int .i64 0, .int .i64 0, .int .i64 0] := ((Blk.new _ _ _).new2 _).new2 _
  have Q2 : Blk (((w.alloc (.cells #[.int .i64 0, .int .i64 0, .int .i64 0, .int .i64 0, .int .i64 0, .int .i64 0, .int .i64 0, .int .i64 0] 25)).alloc (.cells #[.int .i64 0, .int .i64 0, .int .i64 0, .int .i64 0, .int .i64 0, .int .i64 0, .int .i64 0, .int .i64 0] 25)).alloc (.cells #[] 9)) (w.heap.size + 1) 25 #[.int .i64 0, .int .i64 0, .int .i64 0, .int .i64 0, .int .i64 0, .int .i64 0, .int .i64 0, .int .i64 0] := by
    have := Blk.new (w.alloc (.cells #[.int .i64 0, .int .i64 0, .int .i64 0, .int .i64 0, .int .i64 0, .int .i64 0, .int .i64 0, .int .i64 0] 25)) 25 #[.int .i64 0, .int .i64 0, .int .i64 0, .int .i64 0, .int .i64 0, .int .i64 0, .int .i64 0, .int .i64 0]
    rw [World.size_alloc] at this
    exact this.new2 _
  have HP2 := Lib.hid P2
  have HQ2 := Lib.hid Q2
  have nq : w.heap.size + 1 ≠ w.heap.size := fun e => (by omega)
  clear hnn hN B2 P2 Q2 hq1
  subst hn
  subst hx
  go_enter Tryz.func31, Tryz.ntmps31
  go_wp2_with (first
    | (go_at_call 32; refine (HNN.out).mono ?_; rintro e w3 ⟨⟨v, rfl, O⟩, B⟩; obtain ⟨g1, c1', rfl, k0, hb1, hlt1, hcc⟩ := own_one O; simp only [World.size_alloc] at hb1; have me1 : ¬ w.heap.size + 1 = g1 := (by omega); have me2 : ¬ g1 = w.heap.size + 1 := (by omega); have me3 : ¬ w.heap.size = g1 := (by omega); have me4 : ¬ g1 = w.heap.size := (by omega); clear O; have P : Blk w3 w.heap.size 25 #[.int .i64 0, .int .i64 0, .int .i64 0, .int .i64 0, .int .i64 0, .int .i64 0, .int .i64 0, .int .i64 0] := HP2.out.below B HP2.out.lt; have Q : Blk w3 (w.heap.size + 1) 25 #[.int .i64 0, .int .i64 0, .int .i64 0, .int .i64 0, .int .i64 0, .int .i64 0, .int .i64 0, .int .i64 0] := HQ2.out.below B HQ2.out.lt; have kr3 := P.rowOf; have kp3 := P.plain; have kl3 := P.lt; have qr3 := Q.rowOf; have qp3 := Q.plain; have ql3 := Q.lt; have BB := (HB2.out).trans (B.mono (by simp; omega)); have hx3 : w3.cell? ⟨g, off, none⟩ = some (.string s) := (BB.cell (p := ⟨g, off, none⟩) hg).trans hc; have hgl3 : g < w3.heap.size := Nat.lt_of_lt_of_le hg BB.size; have HP3 := Lib.hid P; have HQ3 := Lib.hid Q; have HB3 := Lib.hid BB; clear P Q B BB))
  refine bodyPost_ret (results_cellTmp rfl _ _ rfl (run_loadVar_blk _ _ _ 25 25 (Cl.arr ({ c0 with kind := 5, addr := (p : Int) })) _ 8 (HP3.out.row_ _) Tryz.underlying25 rfl (by kernel_rfl) (by simp [Cl.arr]))) rfl ?_
  exact ⟨⟨({ c0 with kind := 5, addr := (p : Int) }), rfl, fun _ h => by cases h; rfl⟩, Below.setRow HB3.out (Nat.le_refl _) _⟩

set_option maxRecDepth 100000 in
set_option maxHeartbeats 4000000 in
theorem rc_Store (w : World) (g off n c : Nat) (x : Wd) (hc : w.cell? ⟨g, off, none⟩ = some (.string (bs x))) (hg : g < w.heap.size) (hx : x = kStore) (hn : n = 3) (a1 : Option Addr) (n1 c1 : Nat) (l1 : List Wd) (hs1 : ∀ W, (Instr.slice 48 (.slice (some ⟨g, off, none⟩) n c) (some (.int .i64 1)) none none).run Tryz.prog W = .ok (.slice a1 n1 c1) W) (hq1 : StrAt w (.slice a1 n1 c1) l1) (hl1 : l1.length < 4294967296) (p q : Nat) (hN : numsR l1 = some [p, q]) :
    Calls Tryz.prog 31 #[.slice (some ⟨g, off, none⟩) n c] w fun e w' => RcPost (some { c0 with kind := 6, addr := (p : Int), byte := (q : Int) }) e ∧ Below w.heap.size w w' := by
  obtain ⟨s, hs⟩ : ∃ s, bs x = s := ⟨_, rfl⟩
  have htl : s.toList = x := by rw [← hs]; exact bs_toList x
  rw [hs] at hc
  have hg1 : g < w.heap.size + 1 := by omega
  have hg2' : g < w.heap.size + 1 + 1 := by omega
  clear hs
  have B2 : Below w.heap.size w (((w.alloc (.cells #[.int .i64 0, .int .i64 0, .int .i64 0, .int .i64 0, .int .i64 0, .int .i64 0, .int .i64 0, .int .i64 0] 25)).alloc (.cells #[.int .i64 0, .int .i64 0, .int .i64 0, .int .i64 0, .int .i64 0, .int .i64 0, .int .i64 0, .int .i64 0] 25)).alloc (.cells #[] 9)) := (((Below.refl _ _).alloc (Nat.le_refl _) _).alloc (Nat.le_of_lt (Blk.new w 25 _).lt) _).alloc (Nat.le_of_lt ((Blk.new w 25 _).new2 _).lt) _
  have hnn := numbers_r (((w.alloc (.cells #[.int .i64 0, .int .i64 0, .int .i64 0, .int .i64 0, .int .i64 0, .int .i64 0, .int .i64 0, .int .i64 0] 25)).alloc (.cells #[.int .i64 0, .int .i64 0, .int .i64 0, .int .i64 0, .int .i64 0, .int .i64 0, .int .i64 0, .int .i64 0] 25)).alloc (.cells #[] 9)) _ l1 (hq1.below B2) hl1
  rw [hN] at hnn
  unfold NumsPost at hnn
  simp only at hnn
  have HNN := Lib.hid hnn
  have HB2 := Lib.hid B2
  have P2 : Blk (((w.alloc (.cells #[.int .i64 0, .int .i64 0, .int .i64 0, .int .i64 0, .int .i64 0, .int .i64 0, .int .i64 0, .int .i64 0] 25)).alloc (.cells #[.int .i64 0, .int .i64 0, .int .i64 0, .int .i64 0, .int .i64 0, .int .i64 0, .int .i64 0, .int .i64 0] 25)).alloc (.cells #[] 9)) w.heap.size 25 #[.int .i64 0, .int .i64 0, .int .i64 0, .int .i64 0, .int .i64 0, .int .i64 0, .int .i64 0, .int .i64 0] := ((Blk.new _ _ _).new2 _).new2 _
  have Q2 : Blk (((w.alloc (.cells #[.int .i64 0, .int .i64 0, .int .i64 0, .int .i64 0, .int .i64 0, .int .i64 0, .int .i64 0, .int .i64 0] 25)).alloc (.cells #[.int .i64 0, .int .i64 0, .int .i64 0, .int .i64 0, .int .i64 0, .int .i64 0, .int .i64 0, .int .i64 0] 25)).alloc (.cells #[] 9)) (w.heap.size + 1) 25 #[.int .i64 0, .int .i64 0, .int .i64 0, .int .i64 0, .int .i64 0, .int .i64 0, .int .i64 0, .int .i64 0] := by
    have := Blk.new (w.alloc (.cells #[.int .i64 0, .int .i64 0, .int .i64 0, .int .i64 0, .int .i64 0, .int .i64 0, .int .i64 0, .int .i64 0] 25)) 25 #[.int .i64 0, .int .i64 0, .int .i64 0, .int .i64 0, .int .i64 0, .int .i64 0, .int .i64 0, .int .i64 0]
    rw [World.size_alloc] at this
    exact this.new2 _
  have HP2 := Lib.hid P2
  have HQ2 := Lib.hid Q2
  have nq : w.heap.size + 1 ≠ w.heap.size := fun e => (by omega)
  clear hnn hN B2 P2 Q2 hq1
  subst hn
  subst hx
  go_enter Tryz.func31, Tryz.ntmps31
  go_wp2_with (first
    | (go_at_call 32; refine (HNN.out).mono ?_; rintro e w3 ⟨⟨v, rfl, O⟩, B⟩; obtain ⟨g1, c1', rfl, k0, k1, hb1, hlt1, hcc⟩ := own_two O; simp only [World.size_alloc] at hb1; have me1 : ¬ w.heap.size + 1 = g1 := (by omega); have me2 : ¬ g1 = w.heap.size + 1 := (by omega); have me3 : ¬ w.heap.size = g1 := (by omega); have me4 : ¬ g1 = w.heap.size := (by omega); clear O; have P : Blk w3 w.heap.size 25 #[.int .i64 0, .int .i64 0, .int .i64 0, .int .i64 0, .int .i64 0, .int .i64 0, .int .i64 0, .int .i64 0] := HP2.out.below B HP2.out.lt; have Q : Blk w3 (w.heap.size + 1) 25 #[.int .i64 0, .int .i64 0, .int .i64 0, .int .i64 0, .int .i64 0, .int .i64 0, .int .i64 0, .int .i64 0] := HQ2.out.below B HQ2.out.lt; have kr3 := P.rowOf; have kp3 := P.plain; have kl3 := P.lt; have qr3 := Q.rowOf; have qp3 := Q.plain; have ql3 := Q.lt; have BB := (HB2.out).trans (B.mono (by simp; omega)); have hx3 : w3.cell? ⟨g, off, none⟩ = some (.string s) := (BB.cell (p := ⟨g, off, none⟩) hg).trans hc; have hgl3 : g < w3.heap.size := Nat.lt_of_lt_of_le hg BB.size; have HP3 := Lib.hid P; have HQ3 := Lib.hid Q; have HB3 := Lib.hid BB; clear P Q B BB)
    | (refine wp_region_stG 7 (by kernel_rfl) (by kernel_rfl) ?_; simp only [List.take_succ_cons, List.take_zero, List.drop_succ_cons, List.drop_zero]; (repeat (first | (refine StG.skip rfl rfl ?_) | (refine StG.skipU rfl (by simp only [Act.put, List.setIfInBounds_toArray, List.set_cons_zero, List.set_cons_succ]; rfl) ?_) | (refine StG.want rfl (fun K hK => ?_); go_simp; (try go_bits); refine hK _ ?_; clear hK K))); refine StG.nil ?_))
  refine bodyPost_ret (results_cellTmp rfl _ _ rfl (run_loadVar_blk _ _ _ 25 25 (Cl.arr ({ c0 with kind := 6, addr := (p : Int), byte := (q : Int) })) _ 8 (HP3.out.row_ _) Tryz.underlying25 rfl (by kernel_rfl) (by simp [Cl.arr]))) rfl ?_
  exact ⟨⟨({ c0 with kind := 6, addr := (p : Int), byte := (q : Int) }), rfl, fun _ h => by cases h; rfl⟩, Below.setRow HB3.out.drew (Nat.le_refl _) _⟩

set_option maxRecDepth 100000 in
set_option maxHeartbeats 4000000 in
theorem rc_Unmap (w : World) (g off n c : Nat) (x : Wd) (hc : w.cell? ⟨g, off, none⟩ = some (.string (bs x))) (hg : g < w.heap.size) (hx : x = kUnmap) (hn : n = 3) (a1 : Option Addr) (n1 c1 : Nat) (l1 : List Wd) (hs1 : ∀ W, (Instr.slice 48 (.slice (some ⟨g, off, none⟩) n c) (some (.int .i64 1)) (some (.int .i64 3)) none).run Tryz.prog W = .ok (.slice a1 n1 c1) W) (hq1 : StrAt w (.slice a1 n1 c1) l1) (hl1 : l1.length < 4294967296) (a2 : Option Addr) (n2 c2 : Nat) (hs2 : ∀ W, (Instr.slice 48 (.slice (some ⟨g, off, none⟩) n c) (some (.int .i64 3)) none none).run Tryz.prog W = .ok (.slice a2 n2 c2) W) (p q : Nat) (hN : numsR l1 = some [p, q]) :
    Calls Tryz.prog 31 #[.slice (some ⟨g, off, none⟩) n c] w fun e w' => RcPost (some { c0 with page := (p : Int), pages := (q : Int), kind := 2 }) e ∧ Below w.heap.size w w' := by
  obtain ⟨s, hs⟩ : ∃ s, bs x = s := ⟨_, rfl⟩
  have htl : s.toList = x := by rw [← hs]; exact bs_toList x
  rw [hs] at hc
  have hg1 : g < w.heap.size + 1 := by omega
  have hg2' : g < w.heap.size + 1 + 1 := by omega
  clear hs
  have B2 : Below w.heap.size w (((w.alloc (.cells #[.int .i64 0, .int .i64 0, .int .i64 0, .int .i64 0, .int .i64 0, .int .i64 0, .int .i64 0, .int .i64 0] 25)).alloc (.cells #[.int .i64 0, .int .i64 0, .int .i64 0, .int .i64 0, .int .i64 0, .int .i64 0, .int .i64 0, .int .i64 0] 25)).alloc (.cells #[] 9)) := (((Below.refl _ _).alloc (Nat.le_refl _) _).alloc (Nat.le_of_lt (Blk.new w 25 _).lt) _).alloc (Nat.le_of_lt ((Blk.new w 25 _).new2 _).lt) _
  have hnn := numbers_r (((w.alloc (.cells #[.int .i64 0, .int .i64 0, .int .i64 0, .int .i64 0, .int .i64 0, .int .i64 0, .int .i64 0, .int .i64 0] 25)).alloc (.cells #[.int .i64 0, .int .i64 0, .int .i64 0, .int .i64 0, .int .i64 0, .int .i64 0, .int .i64 0, .int .i64 0] 25)).alloc (.cells #[] 9)) _ l1 (hq1.below B2) hl1
  rw [hN] at hnn
  unfold NumsPost at hnn
  simp only at hnn
  have HNN := Lib.hid hnn
  have HB2 := Lib.hid B2
  have P2 : Blk (((w.alloc (.cells #[.int .i64 0, .int .i64 0, .int .i64 0, .int .i64 0, .int .i64 0, .int .i64 0, .int .i64 0, .int .i64 0] 25)).alloc (.cells #[.int .i64 0, .int .i64 0, .int .i64 0, .int .i64 0, .int .i64 0, .int .i64 0, .int .i64 0, .int .i64 0] 25)).alloc (.cells #[] 9)) w.heap.size 25 #[.int .i64 0, .int .i64 0, .int .i64 0, .int .i64 0, .int .i64 0, .int .i64 0, .int .i64 0, .int .i64 0] := ((Blk.new _ _ _).new2 _).new2 _
  have Q2 : Blk (((w.alloc (.cells #[.int .i64 0, .int .i64 0, .int .i64 0, .int .i64 0, .int .i64 0, .int .i64 0, .int .i64 0, .int .i64 0] 25)).alloc (.cells #[.int .i64 0, .int .i64 0, .int .i64 0, .int .i64 0, .int .i64 0, .int .i64 0, .int .i64 0, .int .i64 0] 25)).alloc (.cells #[] 9)) (w.heap.size + 1) 25 #[.int .i64 0, .int .i64 0, .int .i64 0, .int .i64 0, .int .i64 0, .int .i64 0, .int .i64 0, .int .i64 0] := by
    have := Blk.new (w.alloc (.cells #[.int .i64 0, .int .i64 0, .int .i64 0, .int .i64 0, .int .i64 0, .int .i64 0, .int .i64 0, .int .i64 0] 25)) 25 #[.int .i64 0, .int .i64 0, .int .i64 0, .int .i64 0, .int .i64 0, .int .i64 0, .int .i64 0, .int .i64 0]
    rw [World.size_alloc] at this
    exact this.new2 _
  have HP2 := Lib.hid P2
  have HQ2 := Lib.hid Q2
  have nq : w.heap.size + 1 ≠ w.heap.size := fun e => (by omega)
  clear hnn hN B2 P2 Q2 hq1
  subst hn
  subst hx
  have ne1 : ¬ w.heap.size + 1 = g := (by omega)
  have ne2 : ¬ g = w.heap.size + 1 := (by omega)
  have ne3 : ¬ w.heap.size = g := (by omega)
  have ne4 : ¬ g = w.heap.size := (by omega)
  go_enter Tryz.func31, Tryz.ntmps31
  go_wp2_with (first
    | (go_at_call 32; refine (HNN.out).mono ?_; rintro e w3 ⟨⟨v, rfl, O⟩, B⟩; obtain ⟨g1, c1', rfl, k0, k1, hb1, hlt1, hcc⟩ := own_two O; simp only [World.size_alloc] at hb1; have me1 : ¬ w.heap.size + 1 = g1 := (by omega); have me2 : ¬ g1 = w.heap.size + 1 := (by omega); have me3 : ¬ w.heap.size = g1 := (by omega); have me4 : ¬ g1 = w.heap.size := (by omega); clear O; have P : Blk w3 w.heap.size 25 #[.int .i64 0, .int .i64 0, .int .i64 0, .int .i64 0, .int .i64 0, .int .i64 0, .int .i64 0, .int .i64 0] := HP2.out.below B HP2.out.lt; have Q : Blk w3 (w.heap.size + 1) 25 #[.int .i64 0, .int .i64 0, .int .i64 0, .int .i64 0, .int .i64 0, .int .i64 0, .int .i64 0, .int .i64 0] := HQ2.out.below B HQ2.out.lt; have kr3 := P.rowOf; have kp3 := P.plain; have kl3 := P.lt; have qr3 := Q.rowOf; have qp3 := Q.plain; have ql3 := Q.lt; have qc3_0 : w3.cell? ⟨w.heap.size + 1, 0, none⟩ = some (.int .i64 0) := Q.cell 0; have qf3_0 := Q.frozen 0; have qc3_1 : w3.cell? ⟨w.heap.size + 1, 1, none⟩ = some (.int .i64 0) := Q.cell 1; have qf3_1 := Q.frozen 1; have qc3_2 : w3.cell? ⟨w.heap.size + 1, 2, none⟩ = some (.int .i64 0) := Q.cell 2; have qf3_2 := Q.frozen 2; have BB := (HB2.out).trans (B.mono (by simp; omega)); have hx3 : w3.cell? ⟨g, off, none⟩ = some (.string s) := (BB.cell (p := ⟨g, off, none⟩) hg).trans hc; have hgl3 : g < w3.heap.size := Nat.lt_of_lt_of_le hg BB.size; have HP3 := Lib.hid P; have HQ3 := Lib.hid Q; have HB3 := Lib.hid BB; clear P Q B BB))
  refine bodyPost_ret (results_cellTmp rfl _ _ rfl (run_loadVar_blk _ _ _ 25 25 (Cl.arr ({ c0 with page := (p : Int), pages := (q : Int), kind := 2 })) _ 8 ((((HP3.out.setOther 1 _ nq).setOther 2 _ nq).setOther 0 _ nq).row_ _) Tryz.underlying25 rfl (by kernel_rfl) (by simp [Cl.arr]))) rfl ?_
  exact ⟨⟨({ c0 with page := (p : Int), pages := (q : Int), kind := 2 }), rfl, fun _ h => by cases h; rfl⟩, Below.setRow (((HB3.out.setCell (p := ⟨w.heap.size + 1, 1, none⟩) (Nat.le_succ _) _).setCell (p := ⟨w.heap.size + 1, 2, none⟩) (Nat.le_succ _) _).setCell (p := ⟨w.heap.size + 1, 0, none⟩) (Nat.le_succ _) _) (Nat.le_refl _) _⟩

set_option maxRecDepth 100000 in
set_option maxHeartbeats 4000000 in
theorem rc_Protect (w : World) (g off n c : Nat) (x : Wd) (hc : w.cell? ⟨g, off, none⟩ = some (.string (bs x))) (hg : g < w.heap.size) (hx : x = kProtect) (hn : n = 4) (a1 : Option Addr) (n1 c1 : Nat) (l1 : List Wd) (hs1 : ∀ W, (Instr.slice 48 (.slice (some ⟨g, off, none⟩) n c) (some (.int .i64 1)) (some (.int .i64 3)) none).run Tryz.prog W = .ok (.slice a1 n1 c1) W) (hq1 : StrAt w (.slice a1 n1 c1) l1) (hl1 : l1.length < 4294967296) (g2 off2 n2 c2 : Nat) (y : Wd) (hs2 : ∀ W, (Instr.slice 48 (.slice (some ⟨g, off, none⟩) n c) (some (.int .i64 3)) none none).run Tryz.prog W = .ok (.slice (some ⟨g2, off2, none⟩) n2 c2) W) (hy : w.cell? ⟨g2, off2, none⟩ = some (.string (bs y))) (hg2 : g2 < w.heap.size) (hn2 : 0 < n2) (p q : Nat) (hN : numsR l1 = some [p, q]) (v : Int) (hP : permV y = some v) (hv : 0 ≤ v) :
    Calls Tryz.prog 31 #[.slice (some ⟨g, off, none⟩) n c] w fun e w' => RcPost (some { c0 with page := (p : Int), pages := (q : Int), kind := 3, perm := v }) e ∧ Below w.heap.size w w' := by
  obtain ⟨s, hs⟩ : ∃ s, bs x = s := ⟨_, rfl⟩
  have htl : s.toList = x := by rw [← hs]; exact bs_toList x
  rw [hs] at hc
  have hg1 : g < w.heap.size + 1 := by omega
  have hg2' : g < w.heap.size + 1 + 1 := by omega
  clear hs
  obtain ⟨s2, hs2'⟩ : ∃ s, bs y = s := ⟨_, rfl⟩
  have hp := fun (W : World) => perm_r y W
  rw [hs2'] at hy
  simp only [hs2', hP, Option.getD_some] at hp
  have HPM := Lib.hid hp
  have he1 : ¬ w.heap.size + 1 = g2 := by omega
  have he2 : ¬ g2 = w.heap.size + 1 := by omega
  have he3 : ¬ w.heap.size = g2 := by omega
  have he4 : ¬ g2 = w.heap.size := by omega
  clear hp hs2' hP
  have B2 : Below w.heap.size w (((w.alloc (.cells #[.int .i64 0, .int .i64 0, .int .i64 0, .int .i64 0, .int .i64 0, .int .i64 0, .int .i64 0, .int .i64 0] 25)).alloc (.cells #[.int .i64 0, .int .i64 0, .int .i64 0, .int .i64 0, .int .i64 0, .int .i64 0, .int .i64 0, .int .i64 0] 25)).alloc (.cells #[] 9)) := (((Below.refl _ _).alloc (Nat.le_refl _) _).alloc (Nat.le_of_lt (Blk.new w 25 _).lt) _).alloc (Nat.le_of_lt ((Blk.new w 25 _).new2 _).lt) _
  have hnn := numbers_r (((w.alloc (.cells #[.int .i64 0, .int .i64 0, .int .i64 0, .int .i64 0, .int .i64 0, .int .i64 0, .int .i64 0, .int .i64 0] 25)).alloc (.cells #[.int .i64 0, .int .i64 0, .int .i64 0, .int .i64 0, .int .i64 0, .int .i64 0, .int .i64 0, .int .i64 0] 25)).alloc (.cells #[] 9)) _ l1 (hq1.below B2) hl1
  rw [hN] at hnn
  unfold NumsPost at hnn
  simp only at hnn
  have HNN := Lib.hid hnn
  have HB2 := Lib.hid B2
  have P2 : Blk (((w.alloc (.cells #[.int .i64 0, .int .i64 0, .int .i64 0, .int .i64 0, .int .i64 0, .int .i64 0, .int .i64 0, .int .i64 0] 25)).alloc (.cells #[.int .i64 0, .int .i64 0, .int .i64 0, .int .i64 0, .int .i64 0, .int .i64 0, .int .i64 0, .int .i64 0] 25)).alloc (.cells #[] 9)) w.heap.size 25 #[.int .i64 0, .int .i64 0, .int .i64 0, .int .i64 0, .int .i64 0, .int .i64 0, .int .i64 0, .int .i64 0] := ((Blk.new _ _ _).new2 _).new2 _
  have Q2 : Blk (((w.alloc (.cells #[.int .i64 0, .int .i64 0, .int .i64 0, .int .i64 0, .int .i64 0, .int .i64 0, .int .i64 0, .int .i64 0] 25)).alloc (.cells #[.int .i64 0, .int .i64 0, .int .i64 0, .int .i64 0, .int .i64 0, .int .i64 0, .int .i64 0, .int .i64 0] 25)).alloc (.cells #[] 9)) (w.heap.size + 1) 25 #[.int .i64 0, .int .i64 0, .int .i64 0, .int .i64 0, .int .i64 0, .int .i64 0, .int .i64 0, .int .i64 0] := by
    have := Blk.new (w.alloc (.cells #[.int .i64 0, .int .i64 0, .int .i64 0, .int .i64 0, .int .i64 0, .int .i64 0, .int .i64 0, .int .i64 0] 25)) 25 #[.int .i64 0, .int .i64 0, .int .i64 0, .int .i64 0, .int .i64 0, .int .i64 0, .int .i64 0, .int .i64 0]
    rw [World.size_alloc] at this
    exact this.new2 _
  have HP2 := Lib.hid P2
  have HQ2 := Lib.hid Q2
  have nq : w.heap.size + 1 ≠ w.heap.size := fun e => (by omega)
  clear hnn hN B2 P2 Q2 hq1
  subst hn
  subst hx
  have ne1 : ¬ w.heap.size + 1 = g := (by omega)
  have ne2 : ¬ g = w.heap.size + 1 := (by omega)
  have ne3 : ¬ w.heap.size = g := (by omega)
  have ne4 : ¬ g = w.heap.size := (by omega)
  go_enter Tryz.func31, Tryz.ntmps31
  go_wp2_with (first
    | (go_at_call 32; refine (HNN.out).mono ?_; rintro e w3 ⟨⟨v, rfl, O⟩, B⟩; obtain ⟨g1, c1', rfl, k0, k1, hb1, hlt1, hcc⟩ := own_two O; simp only [World.size_alloc] at hb1; have me1 : ¬ w.heap.size + 1 = g1 := (by omega); have me2 : ¬ g1 = w.heap.size + 1 := (by omega); have me3 : ¬ w.heap.size = g1 := (by omega); have me4 : ¬ g1 = w.heap.size := (by omega); clear O; have P : Blk w3 w.heap.size 25 #[.int .i64 0, .int .i64 0, .int .i64 0, .int .i64 0, .int .i64 0, .int .i64 0, .int .i64 0, .int .i64 0] := HP2.out.below B HP2.out.lt; have Q : Blk w3 (w.heap.size + 1) 25 #[.int .i64 0, .int .i64 0, .int .i64 0, .int .i64 0, .int .i64 0, .int .i64 0, .int .i64 0, .int .i64 0] := HQ2.out.below B HQ2.out.lt; have kr3 := P.rowOf; have kp3 := P.plain; have kl3 := P.lt; have qr3 := Q.rowOf; have qp3 := Q.plain; have ql3 := Q.lt; have qc3_0 : w3.cell? ⟨w.heap.size + 1, 0, none⟩ = some (.int .i64 0) := Q.cell 0; have qf3_0 := Q.frozen 0; have qc3_1 : w3.cell? ⟨w.heap.size + 1, 1, none⟩ = some (.int .i64 0) := Q.cell 1; have qf3_1 := Q.frozen 1; have qc3_2 : w3.cell? ⟨w.heap.size + 1, 2, none⟩ = some (.int .i64 0) := Q.cell 2; have qf3_2 := Q.frozen 2; have qc3_3 : w3.cell? ⟨w.heap.size + 1, 3, none⟩ = some (.int .i64 0) := Q.cell 3; have qf3_3 := Q.frozen 3; have BB := (HB2.out).trans (B.mono (by simp; omega)); have hx3 : w3.cell? ⟨g, off, none⟩ = some (.string s) := (BB.cell (p := ⟨g, off, none⟩) hg).trans hc; have hgl3 : g < w3.heap.size := Nat.lt_of_lt_of_le hg BB.size; have hy3 : w3.cell? ⟨g2, off2, none⟩ = some (.string s2) := (BB.cell (p := ⟨g2, off2, none⟩) hg2).trans hy; have hgl2 : g2 < w3.heap.size := Nat.lt_of_lt_of_le hg2 BB.size; have HP3 := Lib.hid P; have HQ3 := Lib.hid Q; have HB3 := Lib.hid BB; clear P Q B BB)
    | (go_at_call 47; refine (HPM.out _).mono ?_; rintro e w4 ⟨rfl, rfl⟩))
  refine bodyPost_ret (results_cellTmp rfl _ _ rfl (run_loadVar_blk _ _ _ 25 25 (Cl.arr ({ c0 with page := (p : Int), pages := (q : Int), kind := 3, perm := v })) _ 8 (((((HP3.out.setOther 1 _ nq).setOther 2 _ nq).setOther 0 _ nq).setOther 3 _ nq).row_ _) Tryz.underlying25 rfl (by kernel_rfl) (by simp [Cl.arr]))) rfl ?_
  exact ⟨⟨({ c0 with page := (p : Int), pages := (q : Int), kind := 3, perm := v }), rfl, fun _ h => by cases h; rfl⟩, Below.setRow ((((HB3.out.setCell (p := ⟨w.heap.size + 1, 1, none⟩) (Nat.le_succ _) _).setCell (p := ⟨w.heap.size + 1, 2, none⟩) (Nat.le_succ _) _).setCell (p := ⟨w.heap.size + 1, 0, none⟩) (Nat.le_succ _) _).setCell (p := ⟨w.heap.size + 1, 3, none⟩) (Nat.le_succ _) _) (Nat.le_refl _) _⟩

set_option maxRecDepth 100000 in
set_option maxHeartbeats 4000000 in
theorem rc_noProtect (w : World) (g off n c : Nat) (x : Wd) (hc : w.cell? ⟨g, off, none⟩ = some (.string (bs x))) (hg : g < w.heap.size) (hx : x = kProtect) (hn : n = 4) (a1 : Option Addr) (n1 c1 : Nat) (l1 : List Wd) (hs1 : ∀ W, (Instr.slice 48 (.slice (some ⟨g, off, none⟩) n c) (some (.int .i64 1)) (some (.int .i64 3)) none).run Tryz.prog W = .ok (.slice a1 n1 c1) W) (hq1 : StrAt w (.slice a1 n1 c1) l1) (hl1 : l1.length < 4294967296) (g2 off2 n2 c2 : Nat) (y : Wd) (hs2 : ∀ W, (Instr.slice 48 (.slice (some ⟨g, off, none⟩) n c) (some (.int .i64 3)) none none).run Tryz.prog W = .ok (.slice (some ⟨g2, off2, none⟩) n2 c2) W) (hy : w.cell? ⟨g2, off2, none⟩ = some (.string (bs y))) (hg2 : g2 < w.heap.size) (hn2 : 0 < n2) (p q : Nat) (hN : numsR l1 = some [p, q]) (hP : permV y = none) :
    Calls Tryz.prog 31 #[.slice (some ⟨g, off, none⟩) n c] w fun e w' => RcPost none e ∧ Below w.heap.size w w' := by
  obtain ⟨s, hs⟩ : ∃ s, bs x = s := ⟨_, rfl⟩
  have htl : s.toList = x := by rw [← hs]; exact bs_toList x
  rw [hs] at hc
  have hg1 : g < w.heap.size + 1 := by omega
  have hg2' : g < w.heap.size + 1 + 1 := by omega
  clear hs
  obtain ⟨s2, hs2'⟩ : ∃ s, bs y = s := ⟨_, rfl⟩
  have hp := fun (W : World) => perm_r y W
  rw [hs2'] at hy
  simp only [hs2', hP, Option.getD_none] at hp
  have HPM := Lib.hid hp
  have he1 : ¬ w.heap.size + 1 = g2 := by omega
  have he2 : ¬ g2 = w.heap.size + 1 := by omega
  have he3 : ¬ w.heap.size = g2 := by omega
  have he4 : ¬ g2 = w.heap.size := by omega
  clear hp hs2' hP
  have B2 : Below w.heap.size w (((w.alloc (.cells #[.int .i64 0, .int .i64 0, .int .i64 0, .int .i64 0, .int .i64 0, .int .i64 0, .int .i64 0, .int .i64 0] 25)).alloc (.cells #[.int .i64 0, .int .i64 0, .int .i64 0, .int .i64 0, .int .i64 0, .int .i64 0, .int .i64 0, .int .i64 0] 25)).alloc (.cells #[] 9)) := (((Below.refl _ _).alloc (Nat.le_refl _) _).alloc (Nat.le_of_lt (Blk.new w 25 _).lt) _).alloc (Nat.le_of_lt ((Blk.new w 25 _).new2 _).lt) _
  have hnn := numbers_r (((w.alloc (.cells #[.int .i64 0, .int .i64 0, .int .i64 0, .int .i64 0, .int .i64 0, .int .i64 0, .int .i64 0, .int .i64 0] 25)).alloc (.cells #[.int .i64 0, .int .i64 0, .int .i64 0, .int .i64 0, .int .i64 0, .int .i64 0, .int .i64 0, .int .i64 0] 25)).alloc (.cells #[] 9)) _ l1 (hq1.below B2) hl1
  rw [hN] at hnn
  unfold NumsPost at hnn
  simp only at hnn
  have HNN := Lib.hid hnn
  have HB2 := Lib.hid B2
  have P2 : Blk (((w.alloc (.cells #[.int .i64 0, .int .i64 0, .int .i64 0, .int .i64 0, .int .i64 0, .int .i64 0, .int .i64 0, .int .i64 0] 25)).alloc (.cells #[.int .i64 0, .int .i64 0, .int .i64 0, .int .i64 0, .int .i64 0, .int .i64 0, .int .i64 0, .int .i64 0] 25)).alloc (.cells #[] 9)) w.heap.size 25 #[.int .i64 0, .int .i64 0, .int .i64 0, .int .i64 0, .int .i64 0, .int .i64 0, .int .i64 0, .int .i64 0] := ((Blk.new _ _ _).new2 _).new2 _
  have Q2 : Blk (((w.alloc (.cells #[.int .i64 0, .int .i64 0, .int .i64 0, .int .i64 0, .int .i64 0, .int .i64 0, .int .i64 0, .int .i64 0] 25)).alloc (.cells #[.int .i64 0, .int .i64 0, .int .i64 0, .int .i64 0, .int .i64 0, .int .i64 0, .int .i64 0, .int .i64 0] 25)).alloc (.cells #[] 9)) (w.heap.size + 1) 25 #[.int .i64 0, .int .i64 0, .int .i64 0, .int .i64 0, .int .i64 0, .int .i64 0, .int .i64 0, .int .i64 0] := by
    have := Blk.new (w.alloc (.cells #[.int .i64 0, .int .i64 0, .int .i64 0, .int .i64 0, .int .i64 0, .int .i64 0, .int .i64 0, .int .i64 0] 25)) 25 #[.int .i64 0, .int .i64 0, .int .i64 0, .int .i64 0, .int .i64 0, .int .i64 0, .int .i64 0, .int .i64 0]
    rw [World.size_alloc] at this
    exact this.new2 _
  have HP2 := Lib.hid P2
  have HQ2 := Lib.hid Q2
  have nq : w.heap.size + 1 ≠ w.heap.size := fun e => (by omega)
  clear hnn hN B2 P2 Q2 hq1
  subst hn
  subst hx
  have ne1 : ¬ w.heap.size + 1 = g := (by omega)
  have ne2 : ¬ g = w.heap.size + 1 := (by omega)
  have ne3 : ¬ w.heap.size = g := (by omega)
  have ne4 : ¬ g = w.heap.size := (by omega)
  go_enter Tryz.func31, Tryz.ntmps31
  go_wp2_with (first
    | (go_at_call 32; refine (HNN.out).mono ?_; rintro e w3 ⟨⟨v, rfl, O⟩, B⟩; obtain ⟨g1, c1', rfl, k0, k1, hb1, hlt1, hcc⟩ := own_two O; simp only [World.size_alloc] at hb1; have me1 : ¬ w.heap.size + 1 = g1 := (by omega); have me2 : ¬ g1 = w.heap.size + 1 := (by omega); have me3 : ¬ w.heap.size = g1 := (by omega); have me4 : ¬ g1 = w.heap.size := (by omega); clear O; have P : Blk w3 w.heap.size 25 #[.int .i64 0, .int .i64 0, .int .i64 0, .int .i64 0, .int .i64 0, .int .i64 0, .int .i64 0, .int .i64 0] := HP2.out.below B HP2.out.lt; have Q : Blk w3 (w.heap.size + 1) 25 #[.int .i64 0, .int .i64 0, .int .i64 0, .int .i64 0, .int .i64 0, .int .i64 0, .int .i64 0, .int .i64 0] := HQ2.out.below B HQ2.out.lt; have kr3 := P.rowOf; have kp3 := P.plain; have kl3 := P.lt; have qr3 := Q.rowOf; have qp3 := Q.plain; have ql3 := Q.lt; have qc3_0 : w3.cell? ⟨w.heap.size + 1, 0, none⟩ = some (.int .i64 0) := Q.cell 0; have qf3_0 := Q.frozen 0; have qc3_1 : w3.cell? ⟨w.heap.size + 1, 1, none⟩ = some (.int .i64 0) := Q.cell 1; have qf3_1 := Q.frozen 1; have qc3_2 : w3.cell? ⟨w.heap.size + 1, 2, none⟩ = some (.int .i64 0) := Q.cell 2; have qf3_2 := Q.frozen 2; have qc3_3 : w3.cell? ⟨w.heap.size + 1, 3, none⟩ = some (.int .i64 0) := Q.cell 3; have qf3_3 := Q.frozen 3; have BB := (HB2.out).trans (B.mono (by simp; omega)); have hx3 : w3.cell? ⟨g, off, none⟩ = some (.string s) := (BB.cell (p := ⟨g, off, none⟩) hg).trans hc; have hgl3 : g < w3.heap.size := Nat.lt_of_lt_of_le hg BB.size; have hy3 : w3.cell? ⟨g2, off2, none⟩ = some (.string s2) := (BB.cell (p := ⟨g2, off2, none⟩) hg2).trans hy; have hgl2 : g2 < w3.heap.size := Nat.lt_of_lt_of_le hg2 BB.size; have HP3 := Lib.hid P; have HQ3 := Lib.hid Q; have HB3 := Lib.hid BB; clear P Q B BB)
    | (go_at_call 47; refine (HPM.out _).mono ?_; rintro e w4 ⟨rfl, rfl⟩))
  refine bodyPost_ret (results_cellTmp rfl _ _ rfl (run_loadVar_blk _ _ _ 25 25 (Cl.arr ({ c0 with page := (p : Int), pages := (q : Int), kind := 3, perm := -1 })) _ 8 (((((HP3.out.setOther 1 _ nq).setOther 2 _ nq).setOther 0 _ nq).setOther 3 _ nq).row_ _) Tryz.underlying25 rfl (by kernel_rfl) (by simp [Cl.arr]))) rfl ?_
  exact ⟨⟨({ c0 with page := (p : Int), pages := (q : Int), kind := 3, perm := -1 }), rfl, fun _ h => by cases h⟩, Below.setRow ((((HB3.out.setCell (p := ⟨w.heap.size + 1, 1, none⟩) (Nat.le_succ _) _).setCell (p := ⟨w.heap.size + 1, 2, none⟩) (Nat.le_succ _) _).setCell (p := ⟨w.heap.size + 1, 0, none⟩) (Nat.le_succ _) _).setCell (p := ⟨w.heap.size + 1, 3, none⟩) (Nat.le_succ _) _) (Nat.le_refl _) _⟩

set_option maxRecDepth 100000 in
set_option maxHeartbeats 4000000 in
theorem rc_Bind (w : World) (g off n c : Nat) (x : Wd) (hc : w.cell? ⟨g, off, none⟩ = some (.string (bs x))) (hg : g < w.heap.size) (hx : x = kBind) (hn : 4 ≤ n) (a1 : Option Addr) (n1 c1 : Nat) (l1 : List Wd) (hs1 : ∀ W, (Instr.slice 48 (.slice (some ⟨g, off, none⟩) n c) (some (.int .i64 1)) (some (.int .i64 3)) none).run Tryz.prog W = .ok (.slice a1 n1 c1) W) (hq1 : StrAt w (.slice a1 n1 c1) l1) (hl1 : l1.length < 4294967296) (a2 : Option Addr) (n2 c2 : Nat) (hs2 : ∀ W, (Instr.slice 48 (.slice (some ⟨g, off, none⟩) n c) (some (.int .i64 3)) none none).run Tryz.prog W = .ok (.slice a2 n2 c2) W) (l2 : List Wd) (hq2 : StrAt w (.slice a2 n2 c2) l2) (p q : Nat) (hN : numsR l1 = some [p, q]) (pk pn : Int) (hQ : polR l2 = some (pk, pn)) :
    Calls Tryz.prog 31 #[.slice (some ⟨g, off, none⟩) n c] w fun e w' => RcPost (some { c0 with page := (p : Int), pages := (q : Int), kind := 4, pk := pk, pn := pn }) e ∧ Below w.heap.size w w' := by
  obtain ⟨s, hs⟩ : ∃ s, bs x = s := ⟨_, rfl⟩
  have htl : s.toList = x := by rw [← hs]; exact bs_toList x
  rw [hs] at hc
  have hg1 : g < w.heap.size + 1 := by omega
  have hg2' : g < w.heap.size + 1 + 1 := by omega
  clear hs
  have hpr := fun (W : World) (hB : Below w.heap.size w W) => policy_r W _ l2 (hq2.below hB)
  rw [hQ] at hpr
  unfold polR2 polV at hpr
  simp only [Option.getD_some, Option.isSome_some] at hpr
  have HPR := Lib.hid hpr
  clear hpr hQ hq2
  have B2 : Below w.heap.size w (((w.alloc (.cells #[.int .i64 0, .int .i64 0, .int .i64 0, .int .i64 0, .int .i64 0, .int .i64 0, .int .i64 0, .int .i64 0] 25)).alloc (.cells #[.int .i64 0, .int .i64 0, .int .i64 0, .int .i64 0, .int .i64 0, .int .i64 0, .int .i64 0, .int .i64 0] 25)).alloc (.cells #[] 9)) := (((Below.refl _ _).alloc (Nat.le_refl _) _).alloc (Nat.le_of_lt (Blk.new w 25 _).lt) _).alloc (Nat.le_of_lt ((Blk.new w 25 _).new2 _).lt) _
  have hnn := numbers_r (((w.alloc (.cells #[.int .i64 0, .int .i64 0, .int .i64 0, .int .i64 0, .int .i64 0, .int .i64 0, .int .i64 0, .int .i64 0] 25)).alloc (.cells #[.int .i64 0, .int .i64 0, .int .i64 0, .int .i64 0, .int .i64 0, .int .i64 0, .int .i64 0, .int .i64 0] 25)).alloc (.cells #[] 9)) _ l1 (hq1.below B2) hl1
  rw [hN] at hnn
  unfold NumsPost at hnn
  simp only at hnn
  have HNN := Lib.hid hnn
  have HB2 := Lib.hid B2
  have P2 : Blk (((w.alloc (.cells #[.int .i64 0, .int .i64 0, .int .i64 0, .int .i64 0, .int .i64 0, .int .i64 0, .int .i64 0, .int .i64 0] 25)).alloc (.cells #[.int .i64 0, .int .i64 0, .int .i64 0, .int .i64 0, .int .i64 0, .int .i64 0, .int .i64 0, .int .i64 0] 25)).alloc (.cells #[] 9)) w.heap.size 25 #[.int .i64 0, .int .i64 0, .int .i64 0, .int .i64 0, .int .i64 0, .int .i64 0, .int .i64 0, .int .i64 0] := ((Blk.new _ _ _).new2 _).new2 _
  have Q2 : Blk (((w.alloc (.cells #[.int .i64 0, .int .i64 0, .int .i64 0, .int .i64 0, .int .i64 0, .int .i64 0, .int .i64 0, .int .i64 0] 25)).alloc (.cells #[.int .i64 0, .int .i64 0, .int .i64 0, .int .i64 0, .int .i64 0, .int .i64 0, .int .i64 0, .int .i64 0] 25)).alloc (.cells #[] 9)) (w.heap.size + 1) 25 #[.int .i64 0, .int .i64 0, .int .i64 0, .int .i64 0, .int .i64 0, .int .i64 0, .int .i64 0, .int .i64 0] := by
    have := Blk.new (w.alloc (.cells #[.int .i64 0, .int .i64 0, .int .i64 0, .int .i64 0, .int .i64 0, .int .i64 0, .int .i64 0, .int .i64 0] 25)) 25 #[.int .i64 0, .int .i64 0, .int .i64 0, .int .i64 0, .int .i64 0, .int .i64 0, .int .i64 0, .int .i64 0]
    rw [World.size_alloc] at this
    exact this.new2 _
  have HP2 := Lib.hid P2
  have HQ2 := Lib.hid Q2
  have nq : w.heap.size + 1 ≠ w.heap.size := fun e => (by omega)
  clear hnn hN B2 P2 Q2 hq1
  subst hx
  have ne1 : ¬ w.heap.size + 1 = g := (by omega)
  have ne2 : ¬ g = w.heap.size + 1 := (by omega)
  have ne3 : ¬ w.heap.size = g := (by omega)
  have ne4 : ¬ g = w.heap.size := (by omega)
  go_enter Tryz.func31, Tryz.ntmps31
  go_wp2_with (first
    | (go_at_call 32; refine (HNN.out).mono ?_; rintro e w3 ⟨⟨v, rfl, O⟩, B⟩; obtain ⟨g1, c1', rfl, k0, k1, hb1, hlt1, hcc⟩ := own_two O; simp only [World.size_alloc] at hb1; have me1 : ¬ w.heap.size + 1 = g1 := (by omega); have me2 : ¬ g1 = w.heap.size + 1 := (by omega); have me3 : ¬ w.heap.size = g1 := (by omega); have me4 : ¬ g1 = w.heap.size := (by omega); clear O; have P : Blk w3 w.heap.size 25 #[.int .i64 0, .int .i64 0, .int .i64 0, .int .i64 0, .int .i64 0, .int .i64 0, .int .i64 0, .int .i64 0] := HP2.out.below B HP2.out.lt; have Q : Blk w3 (w.heap.size + 1) 25 #[.int .i64 0, .int .i64 0, .int .i64 0, .int .i64 0, .int .i64 0, .int .i64 0, .int .i64 0, .int .i64 0] := HQ2.out.below B HQ2.out.lt; have kr3 := P.rowOf; have kp3 := P.plain; have kl3 := P.lt; have qr3 := Q.rowOf; have qp3 := Q.plain; have ql3 := Q.lt; have qc3_0 : w3.cell? ⟨w.heap.size + 1, 0, none⟩ = some (.int .i64 0) := Q.cell 0; have qf3_0 := Q.frozen 0; have qc3_1 : w3.cell? ⟨w.heap.size + 1, 1, none⟩ = some (.int .i64 0) := Q.cell 1; have qf3_1 := Q.frozen 1; have qc3_2 : w3.cell? ⟨w.heap.size + 1, 2, none⟩ = some (.int .i64 0) := Q.cell 2; have qf3_2 := Q.frozen 2; have BB := (HB2.out).trans (B.mono (by simp; omega)); have hx3 : w3.cell? ⟨g, off, none⟩ = some (.string s) := (BB.cell (p := ⟨g, off, none⟩) hg).trans hc; have hgl3 : g < w3.heap.size := Nat.lt_of_lt_of_le hg BB.size; have HP3 := Lib.hid P; have HQ3 := Lib.hid Q; have HB3 := Lib.hid BB; clear P Q B BB)
    | (go_at_call 48; refine (HPR.out _ (((HB3.out.setCell (p := ⟨w.heap.size + 1, 1, none⟩) (Nat.le_succ _) _).setCell (p := ⟨w.heap.size + 1, 2, none⟩) (Nat.le_succ _) _).setCell (p := ⟨w.heap.size + 1, 0, none⟩) (Nat.le_succ _) _)).mono ?_; rintro e w4 ⟨rfl, B⟩; have P : Blk w4 w.heap.size 25 #[.int .i64 0, .int .i64 0, .int .i64 0, .int .i64 0, .int .i64 0, .int .i64 0, .int .i64 0, .int .i64 0] := (((HP3.out.setOther 1 _ nq).setOther 2 _ nq).setOther 0 _ nq).below B (by simpa using kl3); have Q : Blk w4 (w.heap.size + 1) 25 #[.int .i64 4, .int .i64 (p : Int), .int .i64 (q : Int), .int .i64 0, .int .i64 0, .int .i64 0, .int .i64 0, .int .i64 0] := (((HQ3.out.set_ 1 _).set_ 2 _).set_ 0 _).below B (by simpa using ql3); have kr4 := P.rowOf; have kp4 := P.plain; have kl4 := P.lt; have qr4 := Q.rowOf; have qp4 := Q.plain; have ql4 := Q.lt; have BB := ((((HB3.out.setCell (p := ⟨w.heap.size + 1, 1, none⟩) (Nat.le_succ _) _).setCell (p := ⟨w.heap.size + 1, 2, none⟩) (Nat.le_succ _) _).setCell (p := ⟨w.heap.size + 1, 0, none⟩) (Nat.le_succ _) _)).trans (B.mono (by simp; omega)); have hx4 : w4.cell? ⟨g, off, none⟩ = some (.string s) := (BB.cell (p := ⟨g, off, none⟩) hg).trans hc; have hgl4 : g < w4.heap.size := Nat.lt_of_lt_of_le hg BB.size; have HP4 := Lib.hid P; have HQ4 := Lib.hid Q; have HB4 := Lib.hid BB; clear P Q B BB))
  refine bodyPost_ret (results_cellTmp rfl _ _ rfl (run_loadVar_blk _ _ _ 25 25 (Cl.arr ({ c0 with page := (p : Int), pages := (q : Int), kind := 4, pk := pk, pn := pn })) _ 8 ((HP4.out.rowOther _ nq).row_ _) Tryz.underlying25 rfl (by kernel_rfl) (by simp [Cl.arr]))) rfl ?_
  exact ⟨⟨({ c0 with page := (p : Int), pages := (q : Int), kind := 4, pk := pk, pn := pn }), rfl, fun _ h => by cases h; rfl⟩, Below.setRow (Below.setRow HB4.out (Nat.le_succ _) _) (Nat.le_refl _) _⟩

set_option maxRecDepth 100000 in
set_option maxHeartbeats 4000000 in
theorem rc_noBind (w : World) (g off n c : Nat) (x : Wd) (hc : w.cell? ⟨g, off, none⟩ = some (.string (bs x))) (hg : g < w.heap.size) (hx : x = kBind) (hn : 4 ≤ n) (a1 : Option Addr) (n1 c1 : Nat) (l1 : List Wd) (hs1 : ∀ W, (Instr.slice 48 (.slice (some ⟨g, off, none⟩) n c) (some (.int .i64 1)) (some (.int .i64 3)) none).run Tryz.prog W = .ok (.slice a1 n1 c1) W) (hq1 : StrAt w (.slice a1 n1 c1) l1) (hl1 : l1.length < 4294967296) (a2 : Option Addr) (n2 c2 : Nat) (hs2 : ∀ W, (Instr.slice 48 (.slice (some ⟨g, off, none⟩) n c) (some (.int .i64 3)) none none).run Tryz.prog W = .ok (.slice a2 n2 c2) W) (l2 : List Wd) (hq2 : StrAt w (.slice a2 n2 c2) l2) (p q : Nat) (hN : numsR l1 = some [p, q]) (hQ : polR l2 = none) :
    Calls Tryz.prog 31 #[.slice (some ⟨g, off, none⟩) n c] w fun e w' => RcPost none e ∧ Below w.heap.size w w' := by
  obtain ⟨s, hs⟩ : ∃ s, bs x = s := ⟨_, rfl⟩
  have htl : s.toList = x := by rw [← hs]; exact bs_toList x
  rw [hs] at hc
  have hg1 : g < w.heap.size + 1 := by omega
  have hg2' : g < w.heap.size + 1 + 1 := by omega
  clear hs
  have hpr := fun (W : World) (hB : Below w.heap.size w W) => policy_r W _ l2 (hq2.below hB)
  rw [hQ] at hpr
  unfold polR2 polV at hpr
  simp only [Option.getD_none, Option.isSome_none] at hpr
  have HPR := Lib.hid hpr
  clear hpr hQ hq2
  have B2 : Below w.heap.size w (((w.alloc (.cells #[.int .i64 0, .int .i64 0, .int .i64 0, .int .i64 0, .int .i64 0, .int .i64 0, .int .i64 0, .int .i64 0] 25)).alloc (.cells #[.int .i64 0, .int .i64 0, .int .i64 0, .int .i64 0, .int .i64 0, .int .i64 0, .int .i64 0, .int .i64 0] 25)).alloc (.cells #[] 9)) := (((Below.refl _ _).alloc (Nat.le_refl _) _).alloc (Nat.le_of_lt (Blk.new w 25 _).lt) _).alloc (Nat.le_of_lt ((Blk.new w 25 _).new2 _).lt) _
  have hnn := numbers_r (((w.alloc (.cells #[.int .i64 0, .int .i64 0, .int .i64 0, .int .i64 0, .int .i64 0, .int .i64 0, .int .i64 0, .int .i64 0] 25)).alloc (.cells #[.int .i64 0, .int .i64 0, .int .i64 0, .int .i64 0, .int .i64 0, .int .i64 0, .int .i64 0, .int .i64 0] 25)).alloc (.cells #[] 9)) _ l1 (hq1.below B2) hl1
  rw [hN] at hnn
  unfold NumsPost at hnn
  simp only at hnn
  have HNN := Lib.hid hnn
  have HB2 := Lib.hid B2
  have P2 : Blk (((w.alloc (.cells #[.int .i64 0, .int .i64 0, .int .i64 0, .int .i64 0, .int .i64 0, .int .i64 0, .int .i64 0, .int .i64 0] 25)).alloc (.cells #[.int .i64 0, .int .i64 0, .int .i64 0, .int .i64 0, .int .i64 0, .int .i64 0, .int .i64 0, .int .i64 0] 25)).alloc (.cells #[] 9)) w.heap.size 25 #[.int .i64 0, .int .i64 0, .int .i64 0, .int .i64 0, .int .i64 0, .int .i64 0, .int .i64 0, .int .i64 0] := ((Blk.new _ _ _).new2 _).new2 _
  have Q2 : Blk (((w.alloc (.cells #[.int .i64 0, .int .i64 0, .int .i64 0, .int .i64 0, .int .i64 0, .int .i64 0, .int .i64 0, .int .i64 0] 25)).alloc (.cells #[.int .i64 0, .int .i64 0, .int .i64 0, .int .i64 0, .int .i64 0, .int .i64 0, .int .i64 0, .int .i64 0] 25)).alloc (.cells #[] 9)) (w.heap.size + 1) 25 #[.int .i64 0, .int .i64 0, .int .i64 0, .int .i64 0, .int .i64 0, .int .i64 0, .int .i64 0, .int .i64 0] := by
    have := Blk.new (w.alloc (.cells #[.int .i64 0, .int .i64 0, .int .i64 0, .int .i64 0, .int .i64 0, .int .i64 0, .int .i64 0, .int .i64 0] 25)) 25 #[.int .i64 0, .int .i64 0, .int .i64 0, .int .i64 0, .int .i64 0, .int .i64 0, .int .i64 0, .int .i64 0]
    rw [World.size_alloc] at this
    exact this.new2 _
  have HP2 := Lib.hid P2
  have HQ2 := Lib.hid Q2
  have nq : w.heap.size + 1 ≠ w.heap.size := fun e => (by omega)
  clear hnn hN B2 P2 Q2 hq1
  subst hx
  have ne1 : ¬ w.heap.size + 1 = g := (by omega)
  have ne2 : ¬ g = w.heap.size + 1 := (by omega)
  have ne3 : ¬ w.heap.size = g := (by omega)
  have ne4 : ¬ g = w.heap.size := (by omega)
  go_enter Tryz.func31, Tryz.ntmps31
  go_wp2_with (first
    | (go_at_call 32; refine (HNN.out).mono ?_; rintro e w3 ⟨⟨v, rfl, O⟩, B⟩; obtain ⟨g1, c1', rfl, k0, k1, hb1, hlt1, hcc⟩ := own_two O; simp only [World.size_alloc] at hb1; have me1 : ¬ w.heap.size + 1 = g1 := (by omega); have me2 : ¬ g1 = w.heap.size + 1 := (by omega); have me3 : ¬ w.heap.size = g1 := (by omega); have me4 : ¬ g1 = w.heap.size := (by omega); clear O; have P : Blk w3 w.heap.size 25 #[.int .i64 0, .int .i64 0, .int .i64 0, .int .i64 0, .int .i64 0, .int .i64 0, .int .i64 0, .int .i64 0] := HP2.out.below B HP2.out.lt; have Q : Blk w3 (w.heap.size + 1) 25 #[.int .i64 0, .int .i64 0, .int .i64 0, .int .i64 0, .int .i64 0, .int .i64 0, .int .i64 0, .int .i64 0] := HQ2.out.below B HQ2.out.lt; have kr3 := P.rowOf; have kp3 := P.plain; have kl3 := P.lt; have qr3 := Q.rowOf; have qp3 := Q.plain; have ql3 := Q.lt; have qc3_0 : w3.cell? ⟨w.heap.size + 1, 0, none⟩ = some (.int .i64 0) := Q.cell 0; have qf3_0 := Q.frozen 0; have qc3_1 : w3.cell? ⟨w.heap.size + 1, 1, none⟩ = some (.int .i64 0) := Q.cell 1; have qf3_1 := Q.frozen 1; have qc3_2 : w3.cell? ⟨w.heap.size + 1, 2, none⟩ = some (.int .i64 0) := Q.cell 2; have qf3_2 := Q.frozen 2; have BB := (HB2.out).trans (B.mono (by simp; omega)); have hx3 : w3.cell? ⟨g, off, none⟩ = some (.string s) := (BB.cell (p := ⟨g, off, none⟩) hg).trans hc; have hgl3 : g < w3.heap.size := Nat.lt_of_lt_of_le hg BB.size; have HP3 := Lib.hid P; have HQ3 := Lib.hid Q; have HB3 := Lib.hid BB; clear P Q B BB)
    | (go_at_call 48; refine (HPR.out _ (((HB3.out.setCell (p := ⟨w.heap.size + 1, 1, none⟩) (Nat.le_succ _) _).setCell (p := ⟨w.heap.size + 1, 2, none⟩) (Nat.le_succ _) _).setCell (p := ⟨w.heap.size + 1, 0, none⟩) (Nat.le_succ _) _)).mono ?_; rintro e w4 ⟨rfl, B⟩; have P : Blk w4 w.heap.size 25 #[.int .i64 0, .int .i64 0, .int .i64 0, .int .i64 0, .int .i64 0, .int .i64 0, .int .i64 0, .int .i64 0] := (((HP3.out.setOther 1 _ nq).setOther 2 _ nq).setOther 0 _ nq).below B (by simpa using kl3); have Q : Blk w4 (w.heap.size + 1) 25 #[.int .i64 4, .int .i64 (p : Int), .int .i64 (q : Int), .int .i64 0, .int .i64 0, .int .i64 0, .int .i64 0, .int .i64 0] := (((HQ3.out.set_ 1 _).set_ 2 _).set_ 0 _).below B (by simpa using ql3); have kr4 := P.rowOf; have kp4 := P.plain; have kl4 := P.lt; have qr4 := Q.rowOf; have qp4 := Q.plain; have ql4 := Q.lt; have BB := ((((HB3.out.setCell (p := ⟨w.heap.size + 1, 1, none⟩) (Nat.le_succ _) _).setCell (p := ⟨w.heap.size + 1, 2, none⟩) (Nat.le_succ _) _).setCell (p := ⟨w.heap.size + 1, 0, none⟩) (Nat.le_succ _) _)).trans (B.mono (by simp; omega)); have hx4 : w4.cell? ⟨g, off, none⟩ = some (.string s) := (BB.cell (p := ⟨g, off, none⟩) hg).trans hc; have hgl4 : g < w4.heap.size := Nat.lt_of_lt_of_le hg BB.size; have HP4 := Lib.hid P; have HQ4 := Lib.hid Q; have HB4 := Lib.hid BB; clear P Q B BB))
  refine bodyPost_ret (results_cellTmp rfl _ _ rfl (run_loadVar_blk _ _ _ 25 25 (Cl.arr ({ c0 with page := (p : Int), pages := (q : Int), kind := 4, pk := 0, pn := 0 })) _ 8 ((HP4.out.rowOther _ nq).row_ _) Tryz.underlying25 rfl (by kernel_rfl) (by simp [Cl.arr]))) rfl ?_
  exact ⟨⟨({ c0 with page := (p : Int), pages := (q : Int), kind := 4, pk := 0, pn := 0 }), rfl, fun _ h => by cases h⟩, Below.setRow (Below.setRow HB4.out (Nat.le_succ _) _) (Nat.le_refl _) _⟩

set_option maxRecDepth 100000 in
set_option maxHeartbeats 4000000 in
theorem rc_Map (w : World) (g off n c : Nat) (x : Wd) (hc : w.cell? ⟨g, off, none⟩ = some (.string (bs x))) (hg : g < w.heap.size) (hx : x = kMap) (hn : 5 ≤ n) (a1 : Option Addr) (n1 c1 : Nat) (l1 : List Wd) (hs1 : ∀ W, (Instr.slice 48 (.slice (some ⟨g, off, none⟩) n c) (some (.int .i64 1)) (some (.int .i64 3)) none).run Tryz.prog W = .ok (.slice a1 n1 c1) W) (hq1 : StrAt w (.slice a1 n1 c1) l1) (hl1 : l1.length < 4294967296) (g2 off2 n2 c2 : Nat) (y : Wd) (hs2 : ∀ W, (Instr.slice 48 (.slice (some ⟨g, off, none⟩) n c) (some (.int .i64 3)) none none).run Tryz.prog W = .ok (.slice (some ⟨g2, off2, none⟩) n2 c2) W) (hy : w.cell? ⟨g2, off2, none⟩ = some (.string (bs y))) (hg2 : g2 < w.heap.size) (hn2 : 0 < n2) (a3 : Option Addr) (n3 c3 : Nat) (hs3 : ∀ W, (Instr.slice 48 (.slice (some ⟨g2, off2, none⟩) n2 c2) (some (.int .i64 1)) none none).run Tryz.prog W = .ok (.slice a3 n3 c3) W) (l2 : List Wd) (hq2 : StrAt w (.slice a3 n3 c3) l2) (p q : Nat) (hN : numsR l1 = some [p, q]) (v : Int) (hP : permV y = some v) (hv : 0 ≤ v) (pk pn : Int) (hQ : polR l2 = some (pk, pn)) :
    Calls Tryz.prog 31 #[.slice (some ⟨g, off, none⟩) n c] w fun e w' => RcPost (some { c0 with page := (p : Int), pages := (q : Int), kind := 1, perm := v, pk := pk, pn := pn }) e ∧ Below w.heap.size w w' := by
  obtain ⟨s, hs⟩ : ∃ s, bs x = s := ⟨_, rfl⟩
  have htl : s.toList = x := by rw [← hs]; exact bs_toList x
  rw [hs] at hc
  have hg1 : g < w.heap.size + 1 := by omega
  have hg2' : g < w.heap.size + 1 + 1 := by omega
  clear hs
  obtain ⟨s2, hs2'⟩ : ∃ s, bs y = s := ⟨_, rfl⟩
  have hp := fun (W : World) => perm_r y W
  rw [hs2'] at hy
  simp only [hs2', hP, Option.getD_some] at hp
  have HPM := Lib.hid hp
  have he1 : ¬ w.heap.size + 1 = g2 := by omega
  have he2 : ¬ g2 = w.heap.size + 1 := by omega
  have he3 : ¬ w.heap.size = g2 := by omega
  have he4 : ¬ g2 = w.heap.size := by omega
  clear hp hs2' hP
  have hpr := fun (W : World) (hB : Below w.heap.size w W) => policy_r W _ l2 (hq2.below hB)
  rw [hQ] at hpr
  unfold polR2 polV at hpr
  simp only [Option.getD_some, Option.isSome_some] at hpr
  have HPR := Lib.hid hpr
  clear hpr hQ hq2
  have B2 : Below w.heap.size w (((w.alloc (.cells #[.int .i64 0, .int .i64 0, .int .i64 0, .int .i64 0, .int .i64 0, .int .i64 0, .int .i64 0, .int .i64 0] 25)).alloc (.cells #[.int .i64 0, .int .i64 0, .int .i64 0, .int .i64 0, .int .i64 0, .int .i64 0, .int .i64 0, .int .i64 0] 25)).alloc (.cells #[] 9)) := (((Below.refl _ _).alloc (Nat.le_refl _) _).alloc (Nat.le_of_lt (Blk.new w 25 _).lt) _).alloc (Nat.le_of_lt ((Blk.new w 25 _).new2 _).lt) _
  have hnn := numbers_r (((w.alloc (.cells #[.int .i64 0, .int .i64 0, .int .i64 0, .int .i64 0, .int .i64 0, .int .i64 0, .int .i64 0, .int .i64 0] 25)).alloc (.cells #[.int .i64 0, .int .i64 0, .int .i64 0, .int .i64 0, .int .i64 0, .int .i64 0, .int .i64 0, .int .i64 0] 25)).alloc (.cells #[] 9)) _ l1 (hq1.below B2) hl1
  rw [hN] at hnn
  unfold NumsPost at hnn
  simp only at hnn
  have HNN := Lib.hid hnn
  have HB2 := Lib.hid B2
  have P2 : Blk (((w.alloc (.cells #[.int .i64 0, .int .i64 0, .int .i64 0, .int .i64 0, .int .i64 0, .int .i64 0, .int .i64 0, .int .i64 0] 25)).alloc (.cells #[.int .i64 0, .int .i64 0, .int .i64 0, .int .i64 0, .int .i64 0, .int .i64 0, .int .i64 0, .int .i64 0] 25)).alloc (.cells #[] 9)) w.heap.size 25 #[.int .i64 0, .int .i64 0, .int .i64 0, .int .i64 0, .int .i64 0, .int .i64 0, .int .i64 0, .int .i64 0] := ((Blk.new _ _ _).new2 _).new2 _
  have Q2 : Blk (((w.alloc (.cells #[.int .i64 0, .int .i64 0, .int .i64 0, .int .i64 0, .int .i64 0, .int .i64 0, .int .i64 0, .int .i64 0] 25)).alloc (.cells #[.int .i64 0, .int .i64 0, .int .i64 0, .int .i64 0, .int .i64 0, .int .i64 0, .int .i64 0, .int .i64 0] 25)).alloc (.cells #[] 9)) (w.heap.size + 1) 25 #[.int .i64 0, .int .i64 0, .int .i64 0, .int .i64 0, .int .i64 0, .int .i64 0, .int .i64 0, .int .i64 0] := by
    have := Blk.new (w.alloc (.cells #[.int .i64 0, .int .i64 0, .int .i64 0, .int .i64 0, .int .i64 0, .int .i64 0, .int .i64 0, .int .i64 0] 25)) 25 #[.int .i64 0, .int .i64 0, .int .i64 0, .int .i64 0, .int .i64 0, .int .i64 0, .int .i64 0, .int .i64 0]
    rw [World.size_alloc] at this
    exact this.new2 _
  have HP2 := Lib.hid P2
  have HQ2 := Lib.hid Q2
  have nq : w.heap.size + 1 ≠ w.heap.size := fun e => (by omega)
  clear hnn hN B2 P2 Q2 hq1
  subst hx
  have ne1 : ¬ w.heap.size + 1 = g := (by omega)
  have ne2 : ¬ g = w.heap.size + 1 := (by omega)
  have ne3 : ¬ w.heap.size = g := (by omega)
  have ne4 : ¬ g = w.heap.size := (by omega)
  go_enter Tryz.func31, Tryz.ntmps31
  go_wp2_with (first
    | (go_at_call 32; refine (HNN.out).mono ?_; rintro e w3 ⟨⟨v, rfl, O⟩, B⟩; obtain ⟨g1, c1', rfl, k0, k1, hb1, hlt1, hcc⟩ := own_two O; simp only [World.size_alloc] at hb1; have me1 : ¬ w.heap.size + 1 = g1 := (by omega); have me2 : ¬ g1 = w.heap.size + 1 := (by omega); have me3 : ¬ w.heap.size = g1 := (by omega); have me4 : ¬ g1 = w.heap.size := (by omega); clear O; have P : Blk w3 w.heap.size 25 #[.int .i64 0, .int .i64 0, .int .i64 0, .int .i64 0, .int .i64 0, .int .i64 0, .int .i64 0, .int .i64 0] := HP2.out.below B HP2.out.lt; have Q : Blk w3 (w.heap.size + 1) 25 #[.int .i64 0, .int .i64 0, .int .i64 0, .int .i64 0, .int .i64 0, .int .i64 0, .int .i64 0, .int .i64 0] := HQ2.out.below B HQ2.out.lt; have kr3 := P.rowOf; have kp3 := P.plain; have kl3 := P.lt; have qr3 := Q.rowOf; have qp3 := Q.plain; have ql3 := Q.lt; have qc3_0 : w3.cell? ⟨w.heap.size + 1, 0, none⟩ = some (.int .i64 0) := Q.cell 0; have qf3_0 := Q.frozen 0; have qc3_1 : w3.cell? ⟨w.heap.size + 1, 1, none⟩ = some (.int .i64 0) := Q.cell 1; have qf3_1 := Q.frozen 1; have qc3_2 : w3.cell? ⟨w.heap.size + 1, 2, none⟩ = some (.int .i64 0) := Q.cell 2; have qf3_2 := Q.frozen 2; have qc3_3 : w3.cell? ⟨w.heap.size + 1, 3, none⟩ = some (.int .i64 0) := Q.cell 3; have qf3_3 := Q.frozen 3; have BB := (HB2.out).trans (B.mono (by simp; omega)); have hx3 : w3.cell? ⟨g, off, none⟩ = some (.string s) := (BB.cell (p := ⟨g, off, none⟩) hg).trans hc; have hgl3 : g < w3.heap.size := Nat.lt_of_lt_of_le hg BB.size; have hy3 : w3.cell? ⟨g2, off2, none⟩ = some (.string s2) := (BB.cell (p := ⟨g2, off2, none⟩) hg2).trans hy; have hgl2 : g2 < w3.heap.size := Nat.lt_of_lt_of_le hg2 BB.size; have HP3 := Lib.hid P; have HQ3 := Lib.hid Q; have HB3 := Lib.hid BB; clear P Q B BB)
    | (go_at_call 47; refine (HPM.out _).mono ?_; rintro e w4 ⟨rfl, rfl⟩)
    | (go_at_call 48; refine (HPR.out _ ((((HB3.out.setCell (p := ⟨w.heap.size + 1, 1, none⟩) (Nat.le_succ _) _).setCell (p := ⟨w.heap.size + 1, 2, none⟩) (Nat.le_succ _) _).setCell (p := ⟨w.heap.size + 1, 0, none⟩) (Nat.le_succ _) _).setCell (p := ⟨w.heap.size + 1, 3, none⟩) (Nat.le_succ _) _)).mono ?_; rintro e w4 ⟨rfl, B⟩; have P : Blk w4 w.heap.size 25 #[.int .i64 0, .int .i64 0, .int .i64 0, .int .i64 0, .int .i64 0, .int .i64 0, .int .i64 0, .int .i64 0] := ((((HP3.out.setOther 1 _ nq).setOther 2 _ nq).setOther 0 _ nq).setOther 3 _ nq).below B (by simpa using kl3); have Q : Blk w4 (w.heap.size + 1) 25 #[.int .i64 1, .int .i64 (p : Int), .int .i64 (q : Int), .int .i64 v, .int .i64 0, .int .i64 0, .int .i64 0, .int .i64 0] := ((((HQ3.out.set_ 1 _).set_ 2 _).set_ 0 _).set_ 3 _).below B (by simpa using ql3); have kr4 := P.rowOf; have kp4 := P.plain; have kl4 := P.lt; have qr4 := Q.rowOf; have qp4 := Q.plain; have ql4 := Q.lt; have qc4_3 : w4.cell? ⟨w.heap.size + 1, 3, none⟩ = some (.int .i64 v) := Q.cell 3; have qf4_3 := Q.frozen 3; have BB := (((((HB3.out.setCell (p := ⟨w.heap.size + 1, 1, none⟩) (Nat.le_succ _) _).setCell (p := ⟨w.heap.size + 1, 2, none⟩) (Nat.le_succ _) _).setCell (p := ⟨w.heap.size + 1, 0, none⟩) (Nat.le_succ _) _).setCell (p := ⟨w.heap.size + 1, 3, none⟩) (Nat.le_succ _) _)).trans (B.mono (by simp; omega)); have hx4 : w4.cell? ⟨g, off, none⟩ = some (.string s) := (BB.cell (p := ⟨g, off, none⟩) hg).trans hc; have hgl4 : g < w4.heap.size := Nat.lt_of_lt_of_le hg BB.size; have HP4 := Lib.hid P; have HQ4 := Lib.hid Q; have HB4 := Lib.hid BB; clear P Q B BB))
  refine bodyPost_ret (results_cellTmp rfl _ _ rfl (run_loadVar_blk _ _ _ 25 25 (Cl.arr ({ c0 with page := (p : Int), pages := (q : Int), kind := 1, perm := v, pk := pk, pn := pn })) _ 8 ((HP4.out.rowOther _ nq).row_ _) Tryz.underlying25 rfl (by kernel_rfl) (by simp [Cl.arr]))) rfl ?_
  exact ⟨⟨({ c0 with page := (p : Int), pages := (q : Int), kind := 1, perm := v, pk := pk, pn := pn }), rfl, fun _ h => by cases h; rfl⟩, Below.setRow (Below.setRow HB4.out (Nat.le_succ _) _) (Nat.le_refl _) _⟩

set_option maxRecDepth 100000 in
set_option maxHeartbeats 4000000 in
theorem rc_noMapQ (w : World) (g off n c : Nat) (x : Wd) (hc : w.cell? ⟨g, off, none⟩ = some (.string (bs x))) (hg : g < w.heap.size) (hx : x = kMap) (hn : 5 ≤ n) (a1 : Option Addr) (n1 c1 : Nat) (l1 : List Wd) (hs1 : ∀ W, (Instr.slice 48 (.slice (some ⟨g, off, none⟩) n c) (some (.int .i64 1)) (some (.int .i64 3)) none).run Tryz.prog W = .ok (.slice a1 n1 c1) W) (hq1 : StrAt w (.slice a1 n1 c1) l1) (hl1 : l1.length < 4294967296) (g2 off2 n2 c2 : Nat) (y : Wd) (hs2 : ∀ W, (Instr.slice 48 (.slice (some ⟨g, off, none⟩) n c) (some (.int .i64 3)) none none).run Tryz.prog W = .ok (.slice (some ⟨g2, off2, none⟩) n2 c2) W) (hy : w.cell? ⟨g2, off2, none⟩ = some (.string (bs y))) (hg2 : g2 < w.heap.size) (hn2 : 0 < n2) (a3 : Option Addr) (n3 c3 : Nat) (hs3 : ∀ W, (Instr.slice 48 (.slice (some ⟨g2, off2, none⟩) n2 c2) (some (.int .i64 1)) none none).run Tryz.prog W = .ok (.slice a3 n3 c3) W) (l2 : List Wd) (hq2 : StrAt w (.slice a3 n3 c3) l2) (p q : Nat) (hN : numsR l1 = some [p, q]) (v : Int) (hP : permV y = some v) (hQ : polR l2 = none) :
    Calls Tryz.prog 31 #[.slice (some ⟨g, off, none⟩) n c] w fun e w' => RcPost none e ∧ Below w.heap.size w w' := by
  obtain ⟨s, hs⟩ : ∃ s, bs x = s := ⟨_, rfl⟩
  have htl : s.toList = x := by rw [← hs]; exact bs_toList x
  rw [hs] at hc
  have hg1 : g < w.heap.size + 1 := by omega
  have hg2' : g < w.heap.size + 1 + 1 := by omega
  clear hs
  obtain ⟨s2, hs2'⟩ : ∃ s, bs y = s := ⟨_, rfl⟩
  have hp := fun (W : World) => perm_r y W
  rw [hs2'] at hy
  simp only [hs2', hP, Option.getD_some] at hp
  have HPM := Lib.hid hp
  have he1 : ¬ w.heap.size + 1 = g2 := by omega
  have he2 : ¬ g2 = w.heap.size + 1 := by omega
  have he3 : ¬ w.heap.size = g2 := by omega
  have he4 : ¬ g2 = w.heap.size := by omega
  clear hp hs2' hP
  have hpr := fun (W : World) (hB : Below w.heap.size w W) => policy_r W _ l2 (hq2.below hB)
  rw [hQ] at hpr
  unfold polR2 polV at hpr
  simp only [Option.getD_none, Option.isSome_none] at hpr
  have HPR := Lib.hid hpr
  clear hpr hQ hq2
  have B2 : Below w.heap.size w (((w.alloc (.cells #[.int .i64 0, .int .i64 0, .int .i64 0, .int .i64 0, .int .i64 0, .int .i64 0, .int .i64 0, .int .i64 0] 25)).alloc (.cells #[.int .i64 0, .int .i64 0, .int .i64 0, .int .i64 0, .int .i64 0, .int .i64 0, .int .i64 0, .int .i64 0] 25)).alloc (.cells #[] 9)) := (((Below.refl _ _).alloc (Nat.le_refl _) _).alloc (Nat.le_of_lt (Blk.new w 25 _).lt) _).alloc (Nat.le_of_lt ((Blk.new w 25 _).new2 _).lt) _
  have hnn := numbers_r (((w.alloc (.cells #[.int .i64 0, .int .i64 0, .int .i64 0, .int .i64 0, .int .i64 0, .int .i64 0, .int .i64 0, .int .i64 0] 25)).alloc (.cells #[.int .i64 0, .int .i64 0, .int .i64 0, .int .i64 0, .int .i64 0, .int .i64 0, .int .i64 0, .int .i64 0] 25)).alloc (.cells #[] 9)) _ l1 (hq1.below B2) hl1
  rw [hN] at hnn
  unfold NumsPost at hnn
  simp only at hnn
  have HNN := Lib.hid hnn
  have HB2 := Lib.hid B2
  have P2 : Blk (((w.alloc (.cells #[.int .i64 0, .int .i64 0, .int .i64 0, .int .i64 0, .int .i64 0, .int .i64 0, .int .i64 0, .int .i64 0] 25)).alloc (.cells #[.int .i64 0, .int .i64 0, .int .i64 0, .int .i64 0, .int .i64 0, .int .i64 0, .int .i64 0, .int .i64 0] 25)).alloc (.cells #[] 9)) w.heap.size 25 #[.int .i64 0, .int .i64 0, .int .i64 0, .int .i64 0, .int .i64 0, .int .i64 0, .int .i64 0, .int .i64 0] := ((Blk.new _ _ _).new2 _).new2 _
  have Q2 : Blk (((w.alloc (.cells #[.int .i64 0, .int .i64 0, .int .i64 0, .int .i64 0, .int .i64 0, .int .i64 0, .int .i64 0, .int .i64 0] 25)).alloc (.cells #[.int .i64 0, .int .i64 0, .int .i64 0, .int .i64 0, .int .i64 0, .int .i64 0, .int .i64 0, .int .i64 0] 25)).alloc (.cells #[] 9)) (w.heap.size + 1) 25 #[.int .i64 0, .int .i64 0, .int .i64 0, .int .i64 0, .int .i64 0, .int .i64 0, .int .i64 0, .int .i64 0] := by
    have := Blk.new (w.alloc (.cells #[.int .i64 0, .int .i64 0, .int .i64 0, .int .i64 0, .int .i64 0, .int .i64 0, .int .i64 0, .int .i64 0] 25)) 25 #[.int .i64 0, .int .i64 0, .int .i64 0, .int .i64 0, .int .i64 0, .int .i64 0, .int .i64 0, .int .i64 0]
    rw [World.size_alloc] at this
    exact this.new2 _
  have HP2 := Lib.hid P2
  have HQ2 := Lib.hid Q2
  have nq : w.heap.size + 1 ≠ w.heap.size := fun e => (by omega)
  clear hnn hN B2 P2 Q2 hq1
  subst hx
  have ne1 : ¬ w.heap.size + 1 = g := (by omega)
  have ne2 : ¬ g = w.heap.size + 1 := (by omega)
  have ne3 : ¬ w.heap.size = g := (by omega)
  have ne4 : ¬ g = w.heap.size := (by omega)
  go_enter Tryz.func31, Tryz.ntmps31
  go_wp2_with (first
    | (go_at_call 32; refine (HNN.out).mono ?_; rintro e w3 ⟨⟨v, rfl, O⟩, B⟩; obtain ⟨g1, c1', rfl, k0, k1, hb1, hlt1, hcc⟩ := own_two O; simp only [World.size_alloc] at hb1; have me1 : ¬ w.heap.size + 1 = g1 := (by omega); have me2 : ¬ g1 = w.heap.size + 1 := (by omega); have me3 : ¬ w.heap.size = g1 := (by omega); have me4 : ¬ g1 = w.heap.size := (by omega); clear O; have P : Blk w3 w.heap.size 25 #[.int .i64 0, .int .i64 0, .int .i64 0, .int .i64 0, .int .i64 0, .int .i64 0, .int .i64 0, .int .i64 0] := HP2.out.below B HP2.out.lt; have Q : Blk w3 (w.heap.size + 1) 25 #[.int .i64 0, .int .i64 0, .int .i64 0, .int .i64 0, .int .i64 0, .int .i64 0, .int .i64 0, .int .i64 0] := HQ2.out.below B HQ2.out.lt; have kr3 := P.rowOf; have kp3 := P.plain; have kl3 := P.lt; have qr3 := Q.rowOf; have qp3 := Q.plain; have ql3 := Q.lt; have qc3_0 : w3.cell? ⟨w.heap.size + 1, 0, none⟩ = some (.int .i64 0) := Q.cell 0; have qf3_0 := Q.frozen 0; have qc3_1 : w3.cell? ⟨w.heap.size + 1, 1, none⟩ = some (.int .i64 0) := Q.cell 1; have qf3_1 := Q.frozen 1; have qc3_2 : w3.cell? ⟨w.heap.size + 1, 2, none⟩ = some (.int .i64 0) := Q.cell 2; have qf3_2 := Q.frozen 2; have qc3_3 : w3.cell? ⟨w.heap.size + 1, 3, none⟩ = some (.int .i64 0) := Q.cell 3; have qf3_3 := Q.frozen 3; have BB := (HB2.out).trans (B.mono (by simp; omega)); have hx3 : w3.cell? ⟨g, off, none⟩ = some (.string s) := (BB.cell (p := ⟨g, off, none⟩) hg).trans hc; have hgl3 : g < w3.heap.size := Nat.lt_of_lt_of_le hg BB.size; have hy3 : w3.cell? ⟨g2, off2, none⟩ = some (.string s2) := (BB.cell (p := ⟨g2, off2, none⟩) hg2).trans hy; have hgl2 : g2 < w3.heap.size := Nat.lt_of_lt_of_le hg2 BB.size; have HP3 := Lib.hid P; have HQ3 := Lib.hid Q; have HB3 := Lib.hid BB; clear P Q B BB)
    | (go_at_call 47; refine (HPM.out _).mono ?_; rintro e w4 ⟨rfl, rfl⟩)
    | (go_at_call 48; refine (HPR.out _ ((((HB3.out.setCell (p := ⟨w.heap.size + 1, 1, none⟩) (Nat.le_succ _) _).setCell (p := ⟨w.heap.size + 1, 2, none⟩) (Nat.le_succ _) _).setCell (p := ⟨w.heap.size + 1, 0, none⟩) (Nat.le_succ _) _).setCell (p := ⟨w.heap.size + 1, 3, none⟩) (Nat.le_succ _) _)).mono ?_; rintro e w4 ⟨rfl, B⟩; have P : Blk w4 w.heap.size 25 #[.int .i64 0, .int .i64 0, .int .i64 0, .int .i64 0, .int .i64 0, .int .i64 0, .int .i64 0, .int .i64 0] := ((((HP3.out.setOther 1 _ nq).setOther 2 _ nq).setOther 0 _ nq).setOther 3 _ nq).below B (by simpa using kl3); have Q : Blk w4 (w.heap.size + 1) 25 #[.int .i64 1, .int .i64 (p : Int), .int .i64 (q : Int), .int .i64 v, .int .i64 0, .int .i64 0, .int .i64 0, .int .i64 0] := ((((HQ3.out.set_ 1 _).set_ 2 _).set_ 0 _).set_ 3 _).below B (by simpa using ql3); have kr4 := P.rowOf; have kp4 := P.plain; have kl4 := P.lt; have qr4 := Q.rowOf; have qp4 := Q.plain; have ql4 := Q.lt; have qc4_3 : w4.cell? ⟨w.heap.size + 1, 3, none⟩ = some (.int .i64 v) := Q.cell 3; have qf4_3 := Q.frozen 3; have BB := (((((HB3.out.setCell (p := ⟨w.heap.size + 1, 1, none⟩) (Nat.le_succ _) _).setCell (p := ⟨w.heap.size + 1, 2, none⟩) (Nat.le_succ _) _).setCell (p := ⟨w.heap.size + 1, 0, none⟩) (Nat.le_succ _) _).setCell (p := ⟨w.heap.size + 1, 3, none⟩) (Nat.le_succ _) _)).trans (B.mono (by simp; omega)); have hx4 : w4.cell? ⟨g, off, none⟩ = some (.string s) := (BB.cell (p := ⟨g, off, none⟩) hg).trans hc; have hgl4 : g < w4.heap.size := Nat.lt_of_lt_of_le hg BB.size; have HP4 := Lib.hid P; have HQ4 := Lib.hid Q; have HB4 := Lib.hid BB; clear P Q B BB))
  refine bodyPost_ret (results_cellTmp rfl _ _ rfl (run_loadVar_blk _ _ _ 25 25 (Cl.arr ({ c0 with page := (p : Int), pages := (q : Int), kind := 1, perm := v, pk := 0, pn := 0 })) _ 8 ((HP4.out.rowOther _ nq).row_ _) Tryz.underlying25 rfl (by kernel_rfl) (by simp [Cl.arr]))) rfl ?_
  exact ⟨⟨({ c0 with page := (p : Int), pages := (q : Int), kind := 1, perm := v, pk := 0, pn := 0 }), rfl, fun _ h => by cases h⟩, Below.setRow (Below.setRow HB4.out (Nat.le_succ _) _) (Nat.le_refl _) _⟩

set_option maxRecDepth 100000 in
set_option maxHeartbeats 4000000 in
theorem rc_noMapP (w : World) (g off n c : Nat) (x : Wd) (hc : w.cell? ⟨g, off, none⟩ = some (.string (bs x))) (hg : g < w.heap.size) (hx : x = kMap) (hn : 5 ≤ n) (a1 : Option Addr) (n1 c1 : Nat) (l1 : List Wd) (hs1 : ∀ W, (Instr.slice 48 (.slice (some ⟨g, off, none⟩) n c) (some (.int .i64 1)) (some (.int .i64 3)) none).run Tryz.prog W = .ok (.slice a1 n1 c1) W) (hq1 : StrAt w (.slice a1 n1 c1) l1) (hl1 : l1.length < 4294967296) (g2 off2 n2 c2 : Nat) (y : Wd) (hs2 : ∀ W, (Instr.slice 48 (.slice (some ⟨g, off, none⟩) n c) (some (.int .i64 3)) none none).run Tryz.prog W = .ok (.slice (some ⟨g2, off2, none⟩) n2 c2) W) (hy : w.cell? ⟨g2, off2, none⟩ = some (.string (bs y))) (hg2 : g2 < w.heap.size) (hn2 : 0 < n2) (a3 : Option Addr) (n3 c3 : Nat) (hs3 : ∀ W, (Instr.slice 48 (.slice (some ⟨g2, off2, none⟩) n2 c2) (some (.int .i64 1)) none none).run Tryz.prog W = .ok (.slice a3 n3 c3) W) (l2 : List Wd) (hq2 : StrAt w (.slice a3 n3 c3) l2) (p q : Nat) (hN : numsR l1 = some [p, q]) (hP : permV y = none) (pk pn : Int) (hQ : polR l2 = some (pk, pn)) :
    Calls Tryz.prog 31 #[.slice (some ⟨g, off, none⟩) n c] w fun e w' => RcPost none e ∧ Below w.heap.size w w' := by
  obtain ⟨s, hs⟩ : ∃ s, bs x = s := ⟨_, rfl⟩
  have htl : s.toList = x := by rw [← hs]; exact bs_toList x
  rw [hs] at hc
  have hg1 : g < w.heap.size + 1 := by omega
  have hg2' : g < w.heap.size + 1 + 1 := by omega
  clear hs
  obtain ⟨s2, hs2'⟩ : ∃ s, bs y = s := ⟨_, rfl⟩
  have hp := fun (W : World) => perm_r y W
  rw [hs2'] at hy
  simp only [hs2', hP, Option.getD_none] at hp
  have HPM := Lib.hid hp
  have he1 : ¬ w.heap.size + 1 = g2 := by omega
  have he2 : ¬ g2 = w.heap.size + 1 := by omega
  have he3 : ¬ w.heap.size = g2 := by omega
  have he4 : ¬ g2 = w.heap.size := by omega
  clear hp hs2' hP
  have hpr := fun (W : World) (hB : Below w.heap.size w W) => policy_r W _ l2 (hq2.below hB)
  rw [hQ] at hpr
  unfold polR2 polV at hpr
  simp only [Option.getD_some, Option.isSome_some] at hpr
  have HPR := Lib.hid hpr
  clear hpr hQ hq2
  have B2 : Below w.heap.size w (((w.alloc (.cells #[.int .i64 0, .int .i64 0, .int .i64 0, .int .i64 0, .int .i64 0, .int .i64 0, .int .i64 0, .int .i64 0] 25)).alloc (.cells #[.int .i64 0, .int .i64 0, .int .i64 0, .int .i64 0, .int .i64 0, .int .i64 0, .int .i64 0, .int .i64 0] 25)).alloc (.cells #[] 9)) := (((Below.refl _ _).alloc (Nat.le_refl _) _).alloc (Nat.le_of_lt (Blk.new w 25 _).lt) _).alloc (Nat.le_of_lt ((Blk.new w 25 _).new2 _).lt) _
  have hnn := numbers_r (((w.alloc (.cells #[.int .i64 0, .int .i64 0, .int .i64 0, .int .i64 0, .int .i64 0, .int .i64 0, .int .i64 0, .int .i64 0] 25)).alloc (.cells #[.int .i64 0, .int .i64 0, .int .i64 0, .int .i64 0, .int .i64 0, .int .i64 0, .int .i64 0, .int .i64 0] 25)).alloc (.cells #[] 9)) _ l1 (hq1.below B2) hl1
  rw [hN] at hnn
  unfold NumsPost at hnn
  simp only at hnn
  have HNN := Lib.hid hnn
  have HB2 := Lib.hid B2
  have P2 : Blk (((w.alloc (.cells #[.int .i64 0, .int .i64 0, .int .i64 0, .int .i64 0, .int .i64 0, .int .i64 0, .int .i64 0, .int .i64 0] 25)).alloc (.cells #[.int .i64 0, .int .i64 0, .int .i64 0, .int .i64 0, .int .i64 0, .int .i64 0, .int .i64 0, .int .i64 0] 25)).alloc (.cells #[] 9)) w.heap.size 25 #[.int .i64 0, .int .i64 0, .int .i64 0, .int .i64 0, .int .i64 0, .int .i64 0, .int .i64 0, .int .i64 0] := ((Blk.new _ _ _).new2 _).new2 _
  have Q2 : Blk (((w.alloc (.cells #[.int .i64 0, .int .i64 0, .int .i64 0, .int .i64 0, .int .i64 0, .int .i64 0, .int .i64 0, .int .i64 0] 25)).alloc (.cells #[.int .i64 0, .int .i64 0, .int .i64 0, .int .i64 0, .int .i64 0, .int .i64 0, .int .i64 0, .int .i64 0] 25)).alloc (.cells #[] 9)) (w.heap.size + 1) 25 #[.int .i64 0, .int .i64 0, .int .i64 0, .int .i64 0, .int .i64 0, .int .i64 0, .int .i64 0, .int .i64 0] := by
    have := Blk.new (w.alloc (.cells #[.int .i64 0, .int .i64 0, .int .i64 0, .int .i64 0, .int .i64 0, .int .i64 0, .int .i64 0, .int .i64 0] 25)) 25 #[.int .i64 0, .int .i64 0, .int .i64 0, .int .i64 0, .int .i64 0, .int .i64 0, .int .i64 0, .int .i64 0]
    rw [World.size_alloc] at this
    exact this.new2 _
  have HP2 := Lib.hid P2
  have HQ2 := Lib.hid Q2
  have nq : w.heap.size + 1 ≠ w.heap.size := fun e => (by omega)
  clear hnn hN B2 P2 Q2 hq1
  subst hx
  have ne1 : ¬ w.heap.size + 1 = g := (by omega)
  have ne2 : ¬ g = w.heap.size + 1 := (by omega)
  have ne3 : ¬ w.heap.size = g := (by omega)
  have ne4 : ¬ g = w.heap.size := (by omega)
  go_enter Tryz.func31, Tryz.ntmps31
  go_wp2_with (first
    | (go_at_call 32; refine (HNN.out).mono ?_; rintro e w3 ⟨⟨v, rfl, O⟩, B⟩; obtain ⟨g1, c1', rfl, k0, k1, hb1, hlt1, hcc⟩ := own_two O; simp only [World.size_alloc] at hb1; have me1 : ¬ w.heap.size + 1 = g1 := (by omega); have me2 : ¬ g1 = w.heap.size + 1 := (by omega); have me3 : ¬ w.heap.size = g1 := (by omega); have me4 : ¬ g1 = w.heap.size := (by omega); clear O; have P : Blk w3 w.heap.size 25 #[.int .i64 0, .int .i64 0, .int .i64 0, .int .i64 0, .int .i64 0, .int .i64 0, .int .i64 0, .int .i64 0] := HP2.out.below B HP2.out.lt; have Q : Blk w3 (w.heap.size + 1) 25 #[.int .i64 0, .int .i64 0, .int .i64 0, .int .i64 0, .int .i64 0, .int .i64 0, .int .i64 0, .int .i64 0] := HQ2.out.below B HQ2.out.lt; have kr3 := P.rowOf; have kp3 := P.plain; have kl3 := P.lt; have qr3 := Q.rowOf; have qp3 := Q.plain; have ql3 := Q.lt; have qc3_0 : w3.cell? ⟨w.heap.size + 1, 0, none⟩ = some (.int .i64 0) := Q.cell 0; have qf3_0 := Q.frozen 0; have qc3_1 : w3.cell? ⟨w.heap.size + 1, 1, none⟩ = some (.int .i64 0) := Q.cell 1; have qf3_1 := Q.frozen 1; have qc3_2 : w3.cell? ⟨w.heap.size + 1, 2, none⟩ = some (.int .i64 0) := Q.cell 2; have qf3_2 := Q.frozen 2; have qc3_3 : w3.cell? ⟨w.heap.size + 1, 3, none⟩ = some (.int .i64 0) := Q.cell 3; have qf3_3 := Q.frozen 3; have BB := (HB2.out).trans (B.mono (by simp; omega)); have hx3 : w3.cell? ⟨g, off, none⟩ = some (.string s) := (BB.cell (p := ⟨g, off, none⟩) hg).trans hc; have hgl3 : g < w3.heap.size := Nat.lt_of_lt_of_le hg BB.size; have hy3 : w3.cell? ⟨g2, off2, none⟩ = some (.string s2) := (BB.cell (p := ⟨g2, off2, none⟩) hg2).trans hy; have hgl2 : g2 < w3.heap.size := Nat.lt_of_lt_of_le hg2 BB.size; have HP3 := Lib.hid P; have HQ3 := Lib.hid Q; have HB3 := Lib.hid BB; clear P Q B BB)
    | (go_at_call 47; refine (HPM.out _).mono ?_; rintro e w4 ⟨rfl, rfl⟩)
    | (go_at_call 48; refine (HPR.out _ ((((HB3.out.setCell (p := ⟨w.heap.size + 1, 1, none⟩) (Nat.le_succ _) _).setCell (p := ⟨w.heap.size + 1, 2, none⟩) (Nat.le_succ _) _).setCell (p := ⟨w.heap.size + 1, 0, none⟩) (Nat.le_succ _) _).setCell (p := ⟨w.heap.size + 1, 3, none⟩) (Nat.le_succ _) _)).mono ?_; rintro e w4 ⟨rfl, B⟩; have P : Blk w4 w.heap.size 25 #[.int .i64 0, .int .i64 0, .int .i64 0, .int .i64 0, .int .i64 0, .int .i64 0, .int .i64 0, .int .i64 0] := ((((HP3.out.setOther 1 _ nq).setOther 2 _ nq).setOther 0 _ nq).setOther 3 _ nq).below B (by simpa using kl3); have Q : Blk w4 (w.heap.size + 1) 25 #[.int .i64 1, .int .i64 (p : Int), .int .i64 (q : Int), .int .i64 (-1), .int .i64 0, .int .i64 0, .int .i64 0, .int .i64 0] := ((((HQ3.out.set_ 1 _).set_ 2 _).set_ 0 _).set_ 3 _).below B (by simpa using ql3); have kr4 := P.rowOf; have kp4 := P.plain; have kl4 := P.lt; have qr4 := Q.rowOf; have qp4 := Q.plain; have ql4 := Q.lt; have qc4_3 : w4.cell? ⟨w.heap.size + 1, 3, none⟩ = some (.int .i64 (-1)) := Q.cell 3; have qf4_3 := Q.frozen 3; have BB := (((((HB3.out.setCell (p := ⟨w.heap.size + 1, 1, none⟩) (Nat.le_succ _) _).setCell (p := ⟨w.heap.size + 1, 2, none⟩) (Nat.le_succ _) _).setCell (p := ⟨w.heap.size + 1, 0, none⟩) (Nat.le_succ _) _).setCell (p := ⟨w.heap.size + 1, 3, none⟩) (Nat.le_succ _) _)).trans (B.mono (by simp; omega)); have hx4 : w4.cell? ⟨g, off, none⟩ = some (.string s) := (BB.cell (p := ⟨g, off, none⟩) hg).trans hc; have hgl4 : g < w4.heap.size := Nat.lt_of_lt_of_le hg BB.size; have HP4 := Lib.hid P; have HQ4 := Lib.hid Q; have HB4 := Lib.hid BB; clear P Q B BB))
  refine bodyPost_ret (results_cellTmp rfl _ _ rfl (run_loadVar_blk _ _ _ 25 25 (Cl.arr ({ c0 with page := (p : Int), pages := (q : Int), kind := 1, perm := (-1), pk := pk, pn := pn })) _ 8 ((HP4.out.rowOther _ nq).row_ _) Tryz.underlying25 rfl (by kernel_rfl) (by simp [Cl.arr]))) rfl ?_
  exact ⟨⟨({ c0 with page := (p : Int), pages := (q : Int), kind := 1, perm := (-1), pk := pk, pn := pn }), rfl, fun _ h => by cases h⟩, Below.setRow (Below.setRow HB4.out (Nat.le_succ _) _) (Nat.le_refl _) _⟩

set_option maxRecDepth 100000 in
set_option maxHeartbeats 4000000 in
theorem rc_noMap (w : World) (g off n c : Nat) (x : Wd) (hc : w.cell? ⟨g, off, none⟩ = some (.string (bs x))) (hg : g < w.heap.size) (hx : x = kMap) (hn : 5 ≤ n) (a1 : Option Addr) (n1 c1 : Nat) (l1 : List Wd) (hs1 : ∀ W, (Instr.slice 48 (.slice (some ⟨g, off, none⟩) n c) (some (.int .i64 1)) (some (.int .i64 3)) none).run Tryz.prog W = .ok (.slice a1 n1 c1) W) (hq1 : StrAt w (.slice a1 n1 c1) l1) (hl1 : l1.length < 4294967296) (g2 off2 n2 c2 : Nat) (y : Wd) (hs2 : ∀ W, (Instr.slice 48 (.slice (some ⟨g, off, none⟩) n c) (some (.int .i64 3)) none none).run Tryz.prog W = .ok (.slice (some ⟨g2, off2, none⟩) n2 c2) W) (hy : w.cell? ⟨g2, off2, none⟩ = some (.string (bs y))) (hg2 : g2 < w.heap.size) (hn2 : 0 < n2) (a3 : Option Addr) (n3 c3 : Nat) (hs3 : ∀ W, (Instr.slice 48 (.slice (some ⟨g2, off2, none⟩) n2 c2) (some (.int .i64 1)) none none).run Tryz.prog W = .ok (.slice a3 n3 c3) W) (l2 : List Wd) (hq2 : StrAt w (.slice a3 n3 c3) l2) (p q : Nat) (hN : numsR l1 = some [p, q]) (hP : permV y = none) (hQ : polR l2 = none) :
    Calls Tryz.prog 31 #[.slice (some ⟨g, off, none⟩) n c] w fun e w' => RcPost none e ∧ Below w.heap.size w w' := by
  obtain ⟨s, hs⟩ : ∃ s, bs x = s := ⟨_, rfl⟩
  have htl : s.toList = x := by rw [← hs]; exact bs_toList x
  rw [hs] at hc
  have hg1 : g < w.heap.size + 1 := by omega
  have hg2' : g < w.heap.size + 1 + 1 := by omega
  clear hs
  obtain ⟨s2, hs2'⟩ : ∃ s, bs y = s := ⟨_, rfl⟩
  have hp := fun (W : World) => perm_r y W
  rw [hs2'] at hy
  simp only [hs2', hP, Option.getD_none] at hp
  have HPM := Lib.hid hp
  have he1 : ¬ w.heap.size + 1 = g2 := by omega
  have he2 : ¬ g2 = w.heap.size + 1 := by omega
  have he3 : ¬ w.heap.size = g2 := by omega
  have he4 : ¬ g2 = w.heap.size := by omega
  clear hp hs2' hP
  have hpr := fun (W : World) (hB : Below w.heap.size w W) => policy_r W _ l2 (hq2.below hB)
  rw [hQ] at hpr
  unfold polR2 polV at hpr
  simp only [Option.getD_none, Option.isSome_none] at hpr
  have HPR := Lib.hid hpr
  clear hpr hQ hq2
  have B2 : Below w.heap.size w (((w.alloc (.cells #[.int .i64 0, .int .i64 0, .int .i64 0, .int .i64 0, .int .i64 0, .int .i64 0, .int .i64 0, .int .i64 0] 25)).alloc (.cells #[.int .i64 0, .int .i64 0, .int .i64 0, .int .i64 0, .int .i64 0, .int .i64 0, .int .i64 0, .int .i64 0] 25)).alloc (.cells #[] 9)) := (((Below.refl _ _).alloc (Nat.le_refl _) _).alloc (Nat.le_of_lt (Blk.new w 25 _).lt) _).alloc (Nat.le_of_lt ((Blk.new w 25 _).new2 _).lt) _
  have hnn := numbers_r (((w.alloc (.cells #[.int .i64 0, .int .i64 0, .int .i64 0, .int .i64 0, .int .i64 0, .int .i64 0, .int .i64 0, .int .i64 0] 25)).alloc (.cells #[.int .i64 0, .int .i64 0, .int .i64 0, .int .i64 0, .int .i64 0, .int .i64 0, .int .i64 0, .int .i64 0] 25)).alloc (.cells #[] 9)) _ l1 (hq1.below B2) hl1
  rw [hN] at hnn
  unfold NumsPost at hnn
  simp only at hnn
  have HNN := Lib.hid hnn
  have HB2 := Lib.hid B2
  have P2 : Blk (((w.alloc (.cells #[.int .i64 0, .int .i64 0, .int .i64 0, .int .i64 0, .int .i64 0, .int .i64 0, .int .i64 0, .int .i64 0] 25)).alloc (.cells #[.int .i64 0, .int .i64 0, .int .i64 0, .int .i64 0, .int .i64 0, .int .i64 0, .int .i64 0, .int .i64 0] 25)).alloc (.cells #[] 9)) w.heap.size 25 #[.int .i64 0, .int .i64 0, .int .i64 0, .int .i64 0, .int .i64 0, .int .i64 0, .int .i64 0, .int .i64 0] := ((Blk.new _ _ _).new2 _).new2 _
  have Q2 : Blk (((w.alloc (.cells #[.int .i64 0, .int .i64 0, .int .i64 0, .int .i64 0, .int .i64 0, .int .i64 0, .int .i64 0, .int .i64 0] 25)).alloc (.cells #[.int .i64 0, .int .i64 0, .int .i64 0, .int .i64 0, .int .i64 0, .int .i64 0, .int .i64 0, .int .i64 0] 25)).alloc (.cells #[] 9)) (w.heap.size + 1) 25 #[.int .i64 0, .int .i64 0, .int .i64 0, .int .i64 0, .int .i64 0, .int .i64 0, .int .i64 0, .int .i64 0] := by
    have := Blk.new (w.alloc (.cells #[.int .i64 0, .int .i64 0, .int .i64 0, .int .i64 0, .int .i64 0, .int .i64 0, .int .i64 0, .int .i64 0] 25)) 25 #[.int .i64 0, .int .i64 0, .int .i64 0, .int .i64 0, .int .i64 0, .int .i64 0, .int .i64 0, .int .i64 0]
    rw [World.size_alloc] at this
    exact this.new2 _
  have HP2 := Lib.hid P2
  have HQ2 := Lib.hid Q2
  have nq : w.heap.size + 1 ≠ w.heap.size := fun e => (by omega)
  clear hnn hN B2 P2 Q2 hq1
  subst hx
  have ne1 : ¬ w.heap.size + 1 = g := (by omega)
  have ne2 : ¬ g = w.heap.size + 1 := (by omega)
  have ne3 : ¬ w.heap.size = g := (by omega)
  have ne4 : ¬ g = w.heap.size := (by omega)
  go_enter Tryz.func31, Tryz.ntmps31
  go_wp2_with (first
    | (go_at_call 32; refine (HNN.out).mono ?_; rintro e w3 ⟨⟨v, rfl, O⟩, B⟩; obtain ⟨g1, c1', rfl, k0, k1, hb1, hlt1, hcc⟩ := own_two O; simp only [World.size_alloc] at hb1; have me1 : ¬ w.heap.size + 1 = g1 := (by omega); have me2 : ¬ g1 = w.heap.size + 1 := (by omega); have me3 : ¬ w.heap.size = g1 := (by omega); have me4 : ¬ g1 = w.heap.size := (by omega); clear O; have P : Blk w3 w.heap.size 25 #[.int .i64 0, .int .i64 0, .int .i64 0, .int .i64 0, .int .i64 0, .int .i64 0, .int .i64 0, .int .i64 0] := HP2.out.below B HP2.out.lt; have Q : Blk w3 (w.heap.size + 1) 25 #[.int .i64 0, .int .i64 0, .int .i64 0, .int .i64 0, .int .i64 0, .int .i64 0, .int .i64 0, .int .i64 0] := HQ2.out.below B HQ2.out.lt; have kr3 := P.rowOf; have kp3 := P.plain; have kl3 := P.lt; have qr3 := Q.rowOf; have qp3 := Q.plain; have ql3 := Q.lt; have qc3_0 : w3.cell? ⟨w.heap.size + 1, 0, none⟩ = some (.int .i64 0) := Q.cell 0; have qf3_0 := Q.frozen 0; have qc3_1 : w3.cell? ⟨w.heap.size + 1, 1, none⟩ = some (.int .i64 0) := Q.cell 1; have qf3_1 := Q.frozen 1; have qc3_2 : w3.cell? ⟨w.heap.size + 1, 2, none⟩ = some (.int .i64 0) := Q.cell 2; have qf3_2 := Q.frozen 2; have qc3_3 : w3.cell? ⟨w.heap.size + 1, 3, none⟩ = some (.int .i64 0) := Q.cell 3; have qf3_3 := Q.frozen 3; have BB := (HB2.out).trans (B.mono (by simp; omega)); have hx3 : w3.cell? ⟨g, off, none⟩ = some (.string s) := (BB.cell (p := ⟨g, off, none⟩) hg).trans hc; have hgl3 : g < w3.heap.size := Nat.lt_of_lt_of_le hg BB.size; have hy3 : w3.cell? ⟨g2, off2, none⟩ = some (.string s2) := (BB.cell (p := ⟨g2, off2, none⟩) hg2).trans hy; have hgl2 : g2 < w3.heap.size := Nat.lt_of_lt_of_le hg2 BB.size; have HP3 := Lib.hid P; have HQ3 := Lib.hid Q; have HB3 := Lib.hid BB; clear P Q B BB)
    | (go_at_call 47; refine (HPM.out _).mono ?_; rintro e w4 ⟨rfl, rfl⟩)
    | (go_at_call 48; refine (HPR.out _ ((((HB3.out.setCell (p := ⟨w.heap.size + 1, 1, none⟩) (Nat.le_succ _) _).setCell (p := ⟨w.heap.size + 1, 2, none⟩) (Nat.le_succ _) _).setCell (p := ⟨w.heap.size + 1, 0, none⟩) (Nat.le_succ _) _).setCell (p := ⟨w.heap.size + 1, 3, none⟩) (Nat.le_succ _) _)).mono ?_; rintro e w4 ⟨rfl, B⟩; have P : Blk w4 w.heap.size 25 #[.int .i64 0, .int .i64 0, .int .i64 0, .int .i64 0, .int .i64 0, .int .i64 0, .int .i64 0, .int .i64 0] := ((((HP3.out.setOther 1 _ nq).setOther 2 _ nq).setOther 0 _ nq).setOther 3 _ nq).below B (by simpa using kl3); have Q : Blk w4 (w.heap.size + 1) 25 #[.int .i64 1, .int .i64 (p : Int), .int .i64 (q : Int), .int .i64 (-1), .int .i64 0, .int .i64 0, .int .i64 0, .int .i64 0] := ((((HQ3.out.set_ 1 _).set_ 2 _).set_ 0 _).set_ 3 _).below B (by simpa using ql3); have kr4 := P.rowOf; have kp4 := P.plain; have kl4 := P.lt; have qr4 := Q.rowOf; have qp4 := Q.plain; have ql4 := Q.lt; have qc4_3 : w4.cell? ⟨w.heap.size + 1, 3, none⟩ = some (.int .i64 (-1)) := Q.cell 3; have qf4_3 := Q.frozen 3; have BB := (((((HB3.out.setCell (p := ⟨w.heap.size + 1, 1, none⟩) (Nat.le_succ _) _).setCell (p := ⟨w.heap.size + 1, 2, none⟩) (Nat.le_succ _) _).setCell (p := ⟨w.heap.size + 1, 0, none⟩) (Nat.le_succ _) _).setCell (p := ⟨w.heap.size + 1, 3, none⟩) (Nat.le_succ _) _)).trans (B.mono (by simp; omega)); have hx4 : w4.cell? ⟨g, off, none⟩ = some (.string s) := (BB.cell (p := ⟨g, off, none⟩) hg).trans hc; have hgl4 : g < w4.heap.size := Nat.lt_of_lt_of_le hg BB.size; have HP4 := Lib.hid P; have HQ4 := Lib.hid Q; have HB4 := Lib.hid BB; clear P Q B BB))
  refine bodyPost_ret (results_cellTmp rfl _ _ rfl (run_loadVar_blk _ _ _ 25 25 (Cl.arr ({ c0 with page := (p : Int), pages := (q : Int), kind := 1, perm := (-1), pk := 0, pn := 0 })) _ 8 ((HP4.out.rowOther _ nq).row_ _) Tryz.underlying25 rfl (by kernel_rfl) (by simp [Cl.arr]))) rfl ?_
  exact ⟨⟨({ c0 with page := (p : Int), pages := (q : Int), kind := 1, perm := (-1), pk := 0, pn := 0 }), rfl, fun _ h => by cases h⟩, Below.setRow (Below.setRow HB4.out (Nat.le_succ _) _) (Nat.le_refl _) _⟩

end Go.Proofs.YtccoafacbbkooaaGreatDoor
