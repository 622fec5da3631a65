/- Oplog: the contracts of the reference's Append, and of both News. -/
import Derived.Test.YtjeikkecdgnkoaaOlB
import Derived.Deep.RegionHeld3
import Derived.Deep.AppendLies
import Derived.Deep.RegionLaw
namespace Go.Proofs.Ytjeikkecdgnkoaa
open Go.RowKit
attribute [local go_sem ↓] ld35 st35
attribute [local go_sem] run_ld35 run_st35

theorem bs44 (n : Nat) (ps : Array (Nat × Value)) : Instr.buildSlice 44 n ps = bsl 44 n ps := rfl
theorem run_bs44 (w : World) (vs : Array Value) (hs : vs.size = 9) : (bsl 44 1 #[(0, .agg vs)]).run Try.prog w = .ok (.slice (some ⟨w.heap.size, 0, none⟩) 1 1) (w.alloc (.cells vs 35)) := by
  obtain ⟨i, hi, hz⟩ : ∃ i, Try.prog.info? 35 = some i ∧ (i.zero.isSome && i.size == 9) = true := ⟨_, rfl, by kernel_rfl⟩
  simp only [Bool.and_eq_true, beq_iff_eq, Option.isSome_iff_exists] at hz
  obtain ⟨⟨z, hz⟩, h9⟩ := hz
  exact run_buildSlice_one w 44 35 vs i z Try.underlying44 hi hz (by omega) (by omega) (by omega)
attribute [local go_sem ↓] bs44
attribute [local go_sem] run_bs44

theorem ones_mem {x : Array Value} (h : ones x = true) : ∀ v ∈ x.toList, v.oneCell' = true := fun v hv => (Array.all_eq_true_iff_forall_mem.1 h) v (by simpa using hv)
theorem own_form {w : World} {base : Nat} {e : TypeId} {size n : Nat} {v : Value} {xs : List Value} (h : w.ownsRow base e size v n xs) : ∃ a c, v = .slice a n c := by
  rcases h.2 with ⟨rfl, rfl⟩ | ⟨g, cap, cur, rfl, _⟩
  · exact ⟨none, 0, rfl⟩
  · exact ⟨_, _, rfl⟩

theorem rApp_no (w : World) (b hd k n c : Nat) (a : Option Addr) (x : Array Value) (h : Blk w b 46 #[.int .i64 k, .int .i64 hd, .slice a n c]) (h1 : hd + k ≤ n) (h2 : n < 9223372036854775807) :
    Calls Try.prog 22 #[.pointer (some ⟨b, 0, none⟩), .agg x] w fun e w' => e = .returned (.tuple #[.int .i64 0, .int .i64 2]) ∧ Below w.heap.size w w' := by
  have hlt := h.lt
  have c0 : w.cell? ⟨b, 0, none⟩ = some (.int .i64 k) := h.cell 0
  have c1 : w.cell? ⟨b, 1, none⟩ = some (.int .i64 hd) := h.cell 1
  have c2 : w.cell? ⟨b, 2, none⟩ = some (.slice a n c) := h.cell 2
  have hz : decide ((k : Int) ≤ (n : Int) - hd) = true := by simp; omega
  go_enter Try.func22, Try.ntmps22
  go_wp2
  go_quiet (fail)
  go_wp2
  go_ret2
  exact ⟨rfl, below_drewN ((Below.refl _ _).alloc (Nat.le_refl _) _) _⟩

theorem info35 : (Try.prog.info? 35).map (fun i => (i.zero, i.size, i.bytes)) = some (some (.agg #[.int .i64 0, .int .i64 0, .int .i64 0, .int .i64 0, .int .i64 0, .int .i64 0, .int .i64 0, .int .i64 0, .int .i64 0]), 9, 72) := by kernel_rfl

set_option maxRecDepth 100000 in
set_option maxHeartbeats 1000000 in
theorem rApp_yes (w : World) (base b hd k n : Nat) (v : Value) (xs : List Value) (x : Array Value) (h : Blk w b 46 #[.int .i64 k, .int .i64 hd, v]) (hown : w.ownsRow base 35 9 v n xs) (hbase : base ≤ w.heap.size)
    (hx : x.size = 9) (h1 : ones x = true) (hhd : hd ≤ n) (hlo : n < hd + k) (hk : k ≤ 1024) (hn : n + 1 ≤ maxLen) (hby : (n + 1) * 72 ≤ 140737488355328) :
    Calls Try.prog 22 #[.pointer (some ⟨b, 0, none⟩), .agg x] w fun e w' => e = .returned (.tuple #[.int .i64 n, .int .i64 0]) ∧
      ∃ v', Blk w' b 46 #[.int .i64 k, .int .i64 hd, v'] ∧ w'.ownsRow base 35 9 v' (n + 1) (xs ++ x.toList) ∧ Only (fun j => j = b ∨ v.ownBlock = some j) w w' := by
  obtain ⟨i0, hi0, hz0, hz1, hz2⟩ := info_parts info35
  have hlt := h.lt
  have hne := own_blk_ne hown h (by decide)
  obtain ⟨a, c, rfl⟩ := own_form hown
  have hnn : n ≤ 9223372036854775806 := by unfold maxLen at hn; omega
  have c0 : w.cell? ⟨b, 0, none⟩ = some (.int .i64 k) := h.cell 0
  have c1 : w.cell? ⟨b, 1, none⟩ = some (.int .i64 hd) := h.cell 1
  have c2 : w.cell? ⟨b, 2, none⟩ = some (.slice a n c) := h.cell 2
  have hx9 : x.extract 0 9 = x := extract_all hx
  have hz : decide ((k : Int) ≤ (n : Int) - hd) = false := by simp; omega
  have HH := Lib.hid h; clear h
  go_enter Try.func22, Try.ntmps22
  go_wp2
  go_quiet (fail)
  go_wp2
  go_region_law
    ((refine step_append_lies _ (by rfl) _ _ _ (by rfl) base 35 i0 _ 9 72 Try.underlying44 hi0 hz0 hz1 hz2 rfl (by omega) (.slice a n c) n xs (by rfl) ((hown.alloc _).alloc _)
        ⟨w.heap.size + 1, 0, none⟩ 1 1 x.toList (by rfl) (by simpa using hx) (World.news_of_block (t := 35) (fr := (0, 0)) (heap_alloc2_new w _ _)) (ones_mem h1)
        (by omega) hn hby (by simp; omega) (w.heap.size + 2) (by simp) ?_; intro gg cap w1 hown1 hgrow hat hlt;
        have hbx : Blk w1 b 46 #[.int .i64 k, .int .i64 hd, .slice a n c] := (((HH.out.alloc (.cells x 35)).alloc (.cells x 35)).drewN (nq + 1)).grown hgrow (Ne.symm hne);
        have e2 : w1.cell? ⟨b, 2, none⟩ = some (.slice a n c) := hbx.cell 2;
        have e3 : w1.frozen? ⟨b, 2, none⟩ = false := hbx.frozen 2))
  all_goals
    go_wp2
    go_ret2
    refine ⟨rfl, _, hbx.set_ 2 _, own_only (S := (· = b)) hown1 ((Only.refl (· = b) w1).setCell (p := ⟨b, 2, none⟩) (.inl rfl) _) (fun j hj e => ?_),
      (((((Only.refl _ w).alloc _).drewN _).alloc _).grown hgrow (fun j hj => .inl (.inr hj))).setCell (.inl (.inl rfl)) _⟩
    simp only [Value.ownBlock, Option.some.injEq] at hj
    subst e
    subst hj
    rcases hat with hh | hh
    · exact hne hh
    · omega

theorem rApp_log (w : World) (base b : Nat) (v : Value) (s : Ol) (x : Ent) (ok : s.ok) (h : RefAt w base b v s) (hbase : base ≤ w.heap.size) (hn : s.l.length + 1 ≤ maxLen) (hby : (s.l.length + 1) * 72 ≤ 140737488355328) :
    Calls Try.prog 22 #[.pointer (some ⟨b, 0, none⟩), x.val] w fun r w' => r = .returned s.appV ∧ ∃ v', RefAt w' base b v' (s.app x) ∧ Only (fun j => j = b ∨ v.ownBlock = some j) w w' := by
  by_cases hh : s.l.length < s.first + s.slots
  · refine (rApp_yes w base b _ _ _ v _ x.cells.toArray h.hb h.hv hbase rfl (by unfold ones; rw [Array.all_eq_true_iff_forall_mem]; intro v hv; exact x.one v (by simpa using hv)) ok.f hh ok.s2 hn hby).mono ?_
    rintro r w' ⟨rfl, v', h1, h2, h3⟩
    have e1 : s.app x = { s with l := s.l ++ [x] } := by unfold Ol.app; rw [if_pos hh]
    rw [e1]
    exact ⟨by unfold Ol.appV; rw [if_pos hh], v', ⟨h1, by simpa [flat_snoc] using h2⟩, h3⟩
  · obtain ⟨a, c, rfl⟩ := own_form h.hv
    refine (rApp_no w b _ _ _ _ _ x.cells.toArray h.hb (by omega) (by unfold maxLen at hn; omega)).mono ?_
    rintro r w' ⟨rfl, h1⟩
    have e1 : s.app x = s := by unfold Ol.app; rw [if_neg hh]
    rw [e1]
    exact ⟨by unfold Ol.appV; rw [if_neg hh], _, h.below h1, Only.of_below h1⟩
theorem rAdv_log (w : World) (base b : Nat) (v : Value) (s : Ol) (to : Int) (h : RefAt w base b v s) :
    Calls Try.prog 21 #[.pointer (some ⟨b, 0, none⟩), .int .i64 to] w fun r w' => r = .returned (.int .i64 (s.advE to)) ∧ RefAt w' base b v (s.adv to) ∧ Only (· = b) w w' := by
  have hne := own_blk_ne h.hv h.hb (by decide)
  obtain ⟨hb, hv⟩ := h
  obtain ⟨a, c, rfl⟩ := own_form hv
  by_cases hh : (s.first : Int) ≤ to ∧ to ≤ s.l.length
  · refine (rAdv_yes w b _ _ _ _ _ to hb hh.1 hh.2).mono ?_
    rintro x w' ⟨rfl, rfl⟩
    have e1 : s.adv to = { s with first := to.toNat } := by unfold Ol.adv; rw [if_pos hh]
    rw [e1]
    have ho := (Only.refl (· = b) w).setCell (p := ⟨b, 1, none⟩) (.inl rfl) (.int .i64 to)
    refine ⟨by unfold Ol.advE; rw [if_pos hh], ⟨?_, own_only hv ho (fun k hk e => hne (by rw [hk, e]))⟩, ho⟩
    have := hb.set_ 1 (.int .i64 to)
    have e2 : ((to.toNat : Nat) : Int) = to := by omega
    simpa [e2] using this
  · refine (rAdv_no w b _ _ _ _ _ to hb (by omega)).mono ?_
    rintro x w' ⟨rfl, rfl⟩
    have e1 : s.adv to = s := by unfold Ol.adv; rw [if_neg hh]
    rw [e1]
    exact ⟨by unfold Ol.advE; rw [if_neg hh], ⟨hb, hv⟩, Only.refl _ _⟩

/-! ### New -/
theorem new_no (w : World) (n : Int) (h : n < 1 ∨ 1024 < n) : Calls Try.prog 19 #[.int .i64 n] w fun e w' => e = .returned (.tuple #[.pointer none, .int .i64 1]) ∧ w = w' := by
  by_cases h1 : n < 1
  · clear h
    go_enter Try.func19, Try.ntmps19
    go_wp2
    go_ret2
    exact ⟨rfl, rfl⟩
  · have h2 : 1024 < n := by omega
    clear h
    go_enter Try.func19, Try.ntmps19
    go_wp2
    go_ret2
    exact ⟨rfl, rfl⟩
theorem rNew_no (w : World) (n : Int) (h : n < 1 ∨ 1024 < n) : Calls Try.prog 20 #[.int .i64 n] w fun e w' => e = .returned (.tuple #[.pointer none, .int .i64 1]) ∧ w = w' := by
  by_cases h1 : n < 1
  · clear h
    go_enter Try.func20, Try.ntmps20
    go_wp2
    go_ret2
    exact ⟨rfl, rfl⟩
  · have h2 : 1024 < n := by omega
    clear h
    go_enter Try.func20, Try.ntmps20
    go_wp2
    go_ret2
    exact ⟨rfl, rfl⟩
theorem rNew_yes (w : World) (n : Nat) (h : 1 ≤ n) (h2 : n ≤ 1024) : Calls Try.prog 20 #[.int .i64 n] w fun e w' => e = .returned (.tuple #[.pointer (some ⟨w.heap.size, 0, none⟩), .int .i64 0]) ∧
    w.alloc (.cells #[.int .i64 n, .int .i64 0, .slice none 0 0] 46) = w' := by
  go_enter Try.func20, Try.ntmps20
  go_wp2
  go_ret2
  exact ⟨rfl, rfl⟩
theorem new_yes (w : World) (n : Nat) (h : 1 ≤ n) (h2 : n ≤ 1024) : Calls Try.prog 19 #[.int .i64 n] w fun e w' => e = .returned (.tuple #[.pointer (some ⟨w.heap.size + 1, 0, none⟩), .int .i64 0]) ∧
    ∃ cs, cs.size = n * 9 ∧ (w.alloc (.cells cs 35)).alloc (.cells #[.slice (some ⟨w.heap.size, 0, none⟩) n n, .int .i64 0, .int .i64 0] 48) = w' := by
  obtain ⟨i0, hi0, hz0, hz1, hz2⟩ := info_parts info35
  have hmk := fun w => run_make (P := Try.prog) w 44 35 i0 _ Try.underlying44 hi0 hz0 .i64 .i64 n n (by omega) (by omega) (by rw [hz2]; omega) (by omega)
  go_enter Try.func19, Try.ntmps19
  go_wp2
  go_ret2
  exact ⟨rfl, _, size_madeCells _ _, rfl⟩

/-- A log that has just been made. -/
def Ol.made (n : Nat) : Ol := ⟨n, 0, []⟩
theorem Ol.made_ok {n : Nat} (h : 1 ≤ n) (h2 : n ≤ 1024) : (Ol.made n).ok := ⟨h, h2, Nat.zero_le _, by simp [Ol.made]⟩
theorem new_log (w : World) (n : Nat) (h : 1 ≤ n) (h2 : n ≤ 1024) : Calls Try.prog 19 #[.int .i64 n] w fun r w' => r = .returned (.tuple #[.pointer (some ⟨w.heap.size + 1, 0, none⟩), .int .i64 0]) ∧
    LogAt w' (w.heap.size + 1) w.heap.size (Ol.made n) ∧ Below w.heap.size w w' ∧ w'.heap.size = w.heap.size + 2 := by
  refine (new_yes w n h h2).mono ?_
  rintro r w' ⟨rfl, cs, hcs, rfl⟩
  refine ⟨rfl, ⟨Ol.made_ok h h2, ?_, cs, ?_, hcs, fun i x _ hl => by simp [Ol.made] at hl⟩, ((Below.refl _ _).alloc (Nat.le_refl _) _).alloc (by simp) _, by simp⟩
  · exact heap_alloc2_new w _ _
  · exact heap_alloc2_old w _ _
theorem rNew_log (w : World) (n base : Nat) (h : 1 ≤ n) (h2 : n ≤ 1024) : Calls Try.prog 20 #[.int .i64 n] w fun r w' => r = .returned (.tuple #[.pointer (some ⟨w.heap.size, 0, none⟩), .int .i64 0]) ∧
    RefAt w' base w.heap.size (.slice none 0 0) (Ol.made n) ∧ Below w.heap.size w w' ∧ w'.heap.size = w.heap.size + 1 := by
  refine (rNew_yes w n h h2).mono ?_
  rintro r w' ⟨rfl, rfl⟩
  exact ⟨rfl, ⟨Blk.new _ _ _, World.ownsRow_nil _ _ _ _⟩, (Below.refl _ _).alloc (Nat.le_refl _) _, by simp⟩
end Go.Proofs.Ytjeikkecdgnkoaa
