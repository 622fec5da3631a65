/- Oplog: the contracts of Append and New. -/
import Derived.Test.YtjeikkecdgnkoaaOlA
namespace Go.Proofs.Ytjeikkecdgnkoaa
open Go.RowKit

theorem ld35 (v : Value) : Instr.loadAt 35 v = ldAgg 35 v := rfl
theorem st35 (v x : Value) : Instr.storeAt 35 v x = stAgg 35 v x := rfl
theorem run_ld35 (w : World) (g off : Nat) (hp : plainRow w g = true) (hfit : off + 9 ≤ (rowOf w g).size) :
    (ldAgg 35 (.pointer (some ⟨g, off, none⟩))).run Try.prog w = .ok (.agg ((rowOf w g).extract off (off + 9))) w :=
  run_loadAt_row w g off 9 35 _ Try.underlying35 rfl (by kernel_rfl) hp hfit
theorem run_st35 (w : World) (g off : Nat) (vs : Array Value) (hp : plainRow w g = true) (hs : vs.size = 9) (h1 : ones vs = true) (hfit : off + 9 ≤ (rowOf w g).size) :
    (stAgg 35 (.pointer (some ⟨g, off, none⟩)) (.agg vs)).run Try.prog w = .ok () (w.setRow g (putAt (rowOf w g) off vs.toList)) :=
  run_storeAt_row w g off 9 35 vs (by kernel_rfl) hp hs h1 hfit
attribute [local go_sem ↓] ld35 st35
attribute [local go_sem] run_ld35 run_st35

theorem app_nil (w : World) (x : Array Value) : Calls Try.prog 15 #[.pointer none, .agg x] w fun e w' => e = .returned (.tuple #[.int .i64 0, .int .i64 1]) ∧ Below w.heap.size w w' := by
  go_enter Try.func15, Try.ntmps15
  go_wp2_with (go_at_call 16; refine (cap_nil _).mono ?_; rintro e w' ⟨rfl, rfl⟩)
  go_ret2
  exact ⟨rfl, (Below.refl _ _).alloc (Nat.le_refl _) _⟩
theorem app_none (w : World) (b c : Nat) (a : Option Addr) (y z : Value) (x : Array Value) (h : Blk w b 48 #[.slice a 0 c, y, z]) :
    Calls Try.prog 15 #[.pointer (some ⟨b, 0, none⟩), .agg x] w fun e w' => e = .returned (.tuple #[.int .i64 0, .int .i64 1]) ∧ Below w.heap.size w w' := by
  have H := Lib.hid (h.alloc (.cells x 35)); clear h
  go_enter Try.func15, Try.ntmps15
  go_wp2_with (go_at_call 16; refine (cap_blk _ _ _ _ _ _ _ H.out).mono ?_; rintro e w' ⟨rfl, rfl⟩)
  go_ret2
  exact ⟨rfl, (Below.refl _ _).alloc (Nat.le_refl _) _⟩
theorem app_full (w : World) (b n c hd tl : Nat) (a : Option Addr) (x : Array Value) (hn : 1 ≤ n) (h : Blk w b 48 #[.slice a n c, .int .i64 hd, .int .i64 tl]) (hlo : hd ≤ tl) (hhi : tl ≤ 9223372036854775807) (hf : tl = hd + n) :
    Calls Try.prog 15 #[.pointer (some ⟨b, 0, none⟩), .agg x] w fun e w' => e = .returned (.tuple #[.int .i64 0, .int .i64 2]) ∧ Below w.heap.size w w' := by
  have hlt := h.lt
  have c0 : w.cell? ⟨b, 0, none⟩ = some (.slice a n c) := h.cell 0
  have c1 : w.cell? ⟨b, 1, none⟩ = some (.int .i64 hd) := h.cell 1
  have c2 : w.cell? ⟨b, 2, none⟩ = some (.int .i64 tl) := h.cell 2
  have hz : ((n : Int) == 0) = false := by simp; omega
  have hz2 : (((tl : Int) - hd) == (n : Int)) = true := by simp; omega
  have HF := Lib.hid hf; clear hf
  have H := Lib.hid (h.alloc (.cells x 35)); clear h
  go_enter Try.func15, Try.ntmps15
  go_wp2_with (go_at_call 16; refine (cap_blk _ _ _ _ _ _ _ H.out).mono ?_; rintro e w' ⟨rfl, rfl⟩)
  go_quiet (fail)
  go_wp2
  go_ret2
  exact ⟨rfl, below_drewN ((Below.refl _ _).alloc (Nat.le_refl _) _) _⟩
set_option maxHeartbeats 400000 in
theorem app_yes (w : World) (b e n hd tl : Nat) (cs x : Array Value) (hn : 1 ≤ n) (h : Blk w b 48 #[.slice (some ⟨e, 0, none⟩) n n, .int .i64 hd, .int .i64 tl]) (he : Blk w e 35 cs) (hs : cs.size = n * 9) (hlo : hd ≤ tl) (hhi : tl < 9223372036854775807) (hf : tl < hd + n)
    (hx : x.size = 9) (h1 : ones x = true) :
    Calls Try.prog 15 #[.pointer (some ⟨b, 0, none⟩), .agg x] w fun r w' => r = .returned (.tuple #[.int .i64 tl, .int .i64 0]) ∧
      Blk w' b 48 #[.slice (some ⟨e, 0, none⟩) n n, .int .i64 hd, .int .i64 ((tl + 1 : Nat) : Int)] ∧ Blk w' e 35 (putAt cs (tl % n * 9) x.toList) ∧ Only (fun k => k = b ∨ k = e) w w' := by
  have hlt := h.lt
  have hlt2 := he.lt
  have c0 : w.cell? ⟨b, 0, none⟩ = some (.slice (some ⟨e, 0, none⟩) n n) := h.cell 0
  have c1 : w.cell? ⟨b, 1, none⟩ = some (.int .i64 hd) := h.cell 1
  have c2 : w.cell? ⟨b, 2, none⟩ = some (.int .i64 tl) := h.cell 2
  have f2 : w.frozen? ⟨b, 2, none⟩ = false := h.frozen 2
  have hbe : b ≠ e := h.ne_ he (by decide)
  have r1 : rowOf w e = cs := he.rowOf
  have r2 : plainRow w e = true := he.plain
  have hz : ((n : Int) == 0) = false := by simp; omega
  have hz2 : (((tl : Int) - hd) == (n : Int)) = false := by simp; omega
  have hx9 : x.extract 0 9 = x := extract_all hx
  have hnz : ¬ n = 0 := by omega
  have hm0 : 0 ≤ (tl : Int) % (n : Int) := Int.emod_nonneg _ (by omega)
  have hm1 : (tl : Int) % (n : Int) < n := Int.emod_lt_of_pos _ (by omega)
  have H := Lib.hid (h.alloc (.cells x 35)); clear h
  have hfit : tl % n * 9 + 9 ≤ cs.size := by
    have : tl % n < n := Nat.mod_lt _ (by omega)
    rw [hs]; omega
  have HS := Lib.hid hs; clear hs
  go_enter Try.func15, Try.ntmps15
  go_wp2_with (go_at_call 16; refine (cap_blk _ _ _ _ _ _ _ H.out).mono ?_; rintro e w' ⟨rfl, rfl⟩)
  go_quiet (fail)
  go_wp2
  refine wp_region_still_tail 15 (by kernel_rfl) (by kernel_rfl) ?_
  simp only [List.take_succ_cons, List.take_zero, List.drop_succ_cons, List.drop_zero, World.drew_eq]
  repeat (refine wpStill_step (fun K hK => ?_); go_simp; (try go_bits); refine hK _ ?_; clear hK K)
  try refine wpStill_nil ?_
  go_wp2
  go_ret2
  refine ⟨rfl, ?_, ?_, ?_⟩
  · have := ((H.out.drewN (nq + 1)).farRow hbe (putAt cs (tl % n * 9) x.toList)).set_ 2 (.int .i64 ((tl : Int) + 1))
    exact this
  · exact ((((he.alloc (.cells x 35)).drewN (nq + 1)).row_ _).far (p := ⟨b, 2, none⟩) (Ne.symm hbe) _)
  · exact ((((Only.refl _ w).alloc _).drewN _).setRow (.inl (.inr rfl)) _).setCell (.inl (.inl rfl)) _

/-- What Append does. -/
def Ol.app (s : Ol) (x : Ent) : Ol := if s.l.length < s.first + s.slots then { s with l := s.l ++ [x] } else s
def Ol.appV (s : Ol) : Value := if s.l.length < s.first + s.slots then .tuple #[.int .i64 s.l.length, .int .i64 0] else .tuple #[.int .i64 0, .int .i64 2]
theorem Ol.app_ok {s : Ol} (h : s.ok) (x : Ent) : (s.app x).ok := by
  unfold Ol.app
  split
  · obtain ⟨h1, h2, h3, h4⟩ := h
    exact ⟨h1, h2, by simp; omega, by simp; omega⟩
  · exact h
theorem Ol.app_len (s : Ol) (x : Ent) : (s.app x).l.length ≤ s.l.length + 1 := by
  unfold Ol.app
  split
  · simp
  · omega

theorem app_log (w : World) (b e : Nat) (s : Ol) (x : Ent) (h : LogAt w b e s) (hlen : s.l.length < 9223372036854775807) :
    Calls Try.prog 15 #[.pointer (some ⟨b, 0, none⟩), x.val] w fun r w' => r = .returned s.appV ∧ LogAt w' b e (s.app x) ∧ Only (fun k => k = b ∨ k = e) w w' := by
  have hne := h.ne
  have hok := Ol.app_ok h.ok x
  obtain ⟨ok, hb, cs, hc, hs, hx⟩ := h
  by_cases hh : s.l.length < s.first + s.slots
  · refine (app_yes w b e _ _ _ cs x.cells.toArray ok.s1 hb hc hs ok.f hlen hh rfl (by unfold ones; rw [Array.all_eq_true_iff_forall_mem]; intro v hv; exact x.one v (by simpa using hv))).mono ?_
    rintro r w' ⟨rfl, h1, h2, h3⟩
    have e1 : s.app x = { s with l := s.l ++ [x] } := by unfold Ol.app; rw [if_pos hh]
    rw [e1] at hok ⊢
    have hm : s.l.length % s.slots < s.slots := Nat.mod_lt _ (by have := ok.s1; omega)
    have hfit : s.l.length % s.slots * 9 + x.cells.length ≤ cs.size := by rw [hs]; show _ + 9 ≤ _; omega
    refine ⟨by unfold Ol.appV; rw [if_pos hh], ⟨hok, by simpa using h1, _, h2, by rw [size_putAt hfit]; exact hs, ?_⟩, h3⟩
    intro i y hi hy
    have hi' : s.first ≤ i := hi
    simp only [List.getElem?_append] at hy
    split at hy
    · rename_i hlt
      rw [← hx i y hi' hy]
      refine putAt_other hfit ?_
      have hne' : i % s.slots ≠ s.l.length % s.slots := by
        intro he
        have hlt2 : s.l.length < i + s.slots := by omega
        have h1 := Nat.div_add_mod i s.slots
        have h2 := Nat.div_add_mod s.l.length s.slots
        have hle : i / s.slots ≤ s.l.length / s.slots := Nat.div_le_div_right (by omega)
        rcases Nat.eq_or_lt_of_le hle with hq | hq
        · rw [hq] at h1; omega
        · have : s.slots * (i / s.slots + 1) ≤ s.slots * (s.l.length / s.slots) := Nat.mul_le_mul_left _ hq
          rw [Nat.mul_add] at this
          omega
      show i % s.slots * 9 + 9 ≤ s.l.length % s.slots * 9 ∨ s.l.length % s.slots * 9 + 9 ≤ i % s.slots * 9
      omega
    · rename_i hge
      have hil : i = s.l.length := by
        have := (List.getElem?_eq_some_iff.1 hy).1
        simp at this
        omega
      subst hil
      simp at hy
      subst hy
      exact putAt_same hfit
  · refine (app_full w b _ _ _ _ _ x.cells.toArray ok.s1 hb ok.f (by omega) (by have := ok.n; omega)).mono ?_
    rintro r w' ⟨rfl, h1⟩
    have e1 : s.app x = s := by unfold Ol.app; rw [if_neg hh]
    rw [e1]
    exact ⟨by unfold Ol.appV; rw [if_neg hh], LogAt.below ⟨ok, hb, cs, hc, hs, hx⟩ h1, Only.of_below h1⟩
end Go.Proofs.Ytjeikkecdgnkoaa
