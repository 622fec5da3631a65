/- Shoot: made; awake. -/
import Derived.Test.YtfekllnalacggaaShJ
namespace Go.Proofs.Ytfekllnalacggaa
open Go.RowKit
attribute [local go_sem ↓] ld35 st35
attribute [local go_sem] run_ld35 run_st35
theorem ld41 (v : Value) : Instr.loadAt 41 v = ldAgg 41 v := rfl
attribute [local go_sem ↓] ld41

/-- A slice of acts that came in. -/
def ActsAt (w : World) (A : Option Addr) (l : List SAct) : Prop :=
  l.length * 32 ≤ 140737488351232 ∧ (0 < l.length → ∃ b off, A = some ⟨b, off, none⟩ ∧ b < w.heap.size ∧ ∀ i a, l[i]? = some a → ∀ j v, a.cells[j]? = some v → w.cell? ⟨b, off + i * 4 + j, none⟩ = some v)

theorem ActsAt.load {w W : World} {A : Option Addr} {l : List SAct} (h : ActsAt w A l) (hb : Below w.heap.size w W) {i : Nat} {a : SAct} (hi : l[i]? = some a) :
    ∃ b off, A = some ⟨b, off, none⟩ ∧ ∀ n, (ldAgg 41 (.pointer (some ⟨b, off + i * 4, none⟩))).run Try.prog (W.drewN n) = .ok a.val (W.drewN n) := by
  have hlt : i < l.length := (List.getElem?_eq_some_iff.1 hi).1
  obtain ⟨b, off, rfl, hbb, hc⟩ := h.2 (by omega)
  refine ⟨b, off, rfl, fun n => ?_⟩
  have hl : (loadCells ⟨b, off + i * 4, none⟩ a.cells.toList.length).run Try.prog (W.drewN n) = .ok a.cells.toList.toArray (W.drewN n) :=
    run_loadCells_list (P := Try.prog) (W.drewN n) ⟨b, off + i * 4, none⟩ _ (fun j v hv => by
      rw [add_off]
      exact (hb.cell (p := ⟨b, off + i * 4 + j, none⟩) hbb).trans (hc i a hi j v (by simpa using hv)))
  have hagg := run_isAgg (P := Try.prog) Try.underlying41 rfl (W.drewN n)
  obtain ⟨i0, hi0, hs⟩ : ∃ i, Try.prog.info? 41 = some i ∧ i.size = 4 := ⟨_, rfl, by kernel_rfl⟩
  have hsz : a.cells.toList.length = 4 := rfl
  rw [hsz, Array.toArray_toList] at hl
  simp only [ldAgg, Instr.loadAt, Instr.sureAddr, Sem.run_bind, Sem.run_pure, Result.andThen_ok]
  simp [loadVar, Sem.run_bind, hagg, sizeOf, typeInfo, hi0, hs, hl, SAct.val]

def Sh.run (s : Sh) (l : List SAct) : Sh := l.foldl Sh.step s
theorem Sh.run_snoc (s : Sh) (l : List SAct) (a : SAct) : s.run (l ++ [a]) = (s.run l).step a := by simp [Sh.run]
theorem Sh.run_len (s : Sh) (l : List SAct) : (s.run l).l.length ≤ s.l.length + l.length := by
  induction l generalizing s with
  | nil => exact Nat.le_refl _
  | cons a l ih =>
    have h1 := ih (s.step a)
    have h2 := Sh.step_len s a
    have h3 : (s.run (a :: l)) = (s.step a).run l := rfl
    rw [h3, List.length_cons]
    omega
theorem results_tmp4 {fn : Func} {t u v x : Tmp} (h : fn.results = #[.tmp t, .tmp u, .tmp v, .tmp x]) (tmps : Array Value) (P : Program) (w : World) :
    (results fn tmps).run P w = .ok (.tuple #[tmps.getD t undef, tmps.getD u undef, tmps.getD v undef, tmps.getD x undef]) w := by simp [results, h]

theorem made_no (w : World) (n : Int) (A : Option Addr) (len cap : Nat) (h : n < 1 ∨ 64 < n) :
    Calls Try.prog 7 #[.int .i64 n, .slice A len cap] w fun r w' => r = .returned (.tuple #[.pointer none, .pointer none, .bool true, .bool false]) ∧ w = w' := by
  have H := Lib.hid h; clear h
  go_enter Try.func7, Try.ntmps7
  go_wp2_with (first
    | (go_at_call 17; refine (new_no _ _ H.out).mono ?_; rintro r w1 ⟨rfl, rfl⟩)
    | (go_at_call 18; refine (rNew_no _ _ H.out).mono ?_; rintro r w1 ⟨rfl, rfl⟩))
  refine wp_loop_rounds 1 ?_
  rw [rounds_succ]
  go_wp2
  all_goals
    refine bodyPost_ret (results_tmp4 rfl _ _ _) rfl ?_
    exact ⟨rfl, rfl⟩
theorem take_snoc {α : Type} (l : List α) (k : Nat) (h : k < l.length) : l.take (k + 1) = l.take k ++ [l[k]] := by
  rw [List.take_succ_eq_append_getElem h]

set_option maxHeartbeats 1000000 in
theorem made_yes (w : World) (n : Nat) (A : Option Addr) (cap : Nat) (l : List SAct) (h1 : 1 ≤ n) (h2 : n ≤ 64) (ha : ActsAt w A l) :
    Calls Try.prog 7 #[.int .i64 n, .slice A l.length cap] w fun r w' => ∃ b e br ed base, r = .returned (.tuple #[.pointer (some ⟨b, 0, none⟩), .pointer (some ⟨br, 0, none⟩), .bool true, .bool true]) ∧
      St w' w.heap.size base b e br ed ((Sh.made n).run l) ∧ Below w.heap.size w w' := by
  have hl : l.length ≤ 4398046510976 := by have := ha.1; omega
  have HA := Lib.hid ha; clear ha
  go_enter Try.func7, Try.ntmps7
  go_wp2_with (first
    | (go_at_call 17; refine (new_sh _ _ h1 h2).mono ?_; rintro r w1 ⟨rfl, L1, B1, Z1⟩)
    | (go_at_call 18; refine (rNew_sh _ _ (w.heap.size + 4) h1 h2).mono ?_; rintro r w2 ⟨rfl, R1, B2, Z2⟩))
  rw [Z1] at R1 Z2
  have hS0 : St w2 w.heap.size (w.heap.size + 4) (w.heap.size + 1) w.heap.size (w.heap.size + 2 + 1) (w.heap.size + 2) (Sh.made n) :=
    ⟨L1.below B2, ⟨_, R1⟩, by omega, by omega, by omega, by omega, by omega, by omega⟩
  have hB0 : Below w.heap.size w w2 := B1.trans (B2.mono (by omega))
  clear L1 R1 B1 B2 Z1 Z2
  go_loopw [6, 10] (fun f i wr => ∃ k : Nat, k ≤ l.length ∧ f = .bool true ∧ i = .int .i64 k ∧ St wr w.heap.size (w.heap.size + 4) (w.heap.size + 1) w.heap.size (w.heap.size + 2 + 1) (w.heap.size + 2) ((Sh.made n).run (l.take k)) ∧ Below w.heap.size w wr)
    (fun _ i _ => l.length - (intOf i).toNat)
  case atStart => exact ⟨0, Nat.zero_le _, rfl, rfl, hS0, hB0⟩
  case round =>
    obtain ⟨k, hk, rfl, rfl, hS, hB⟩ := hrel
    clear hS0 hB0
    by_cases hlt : k < l.length
    · obtain ⟨bb, off, rfl, hload⟩ := HA.out.load hB (i := k) (List.getElem?_eq_getElem hlt)
      have hld : (ldAgg 41 (.pointer (some ⟨bb, off + k * 4, none⟩))).run Try.prog wr = .ok l[k].val wr := hload 0
      clear hload
      have hlen : (((Sh.made n).run (l.take k)).l.length + 1) * 24 ≤ 140737488355328 := by
        have h := Sh.run_len (Sh.made n) (l.take k)
        have h3 : (Sh.made n).l.length = 0 := rfl
        rw [List.length_take] at h
        omega
      go_wp2_with (go_at_call 12; refine (play_st _ _ _ _ _ _ _ _ _ hS hlen).mono ?_; rintro r w3 ⟨rfl, hS', hB'⟩)
      go_roundw
      case rel =>
        refine ⟨k + 1, by omega, rfl, by go_num, ?_, hB.trans hB'⟩
        rw [take_snoc l k hlt, Sh.run_snoc]
        exact hS'
      case measure => simp [intOf]; omega
    · go_wp2
      refine bodyPost_ret (results_tmp4 rfl _ _ _) rfl ?_
      rw [List.take_of_length_le (by omega)] at hS
      exact ⟨_, _, _, _, _, rfl, hS, hB⟩

def x08 : Req := ⟨0, 8⟩
set_option maxHeartbeats 1000000 in
theorem awake_any (w : World) : Calls Try.prog 8 #[] w fun r w' => r = .returned (.bool true) ∧ Below w.heap.size w w' := by
  have v0 : (Sh.made 2).postV 0 8 = .tuple #[.int .i64 1, .int .i64 0] := rfl
  have v1 : handV (((Sh.made 2).post 0 8).next 0) = .tuple #[.int .i64 0, .int .i64 8, .bool true] := rfl
  have v2 : (((Sh.made 2).post 0 8).hand 0).pend 1 2 = 1 := rfl
  have v3 : (((Sh.made 2).post 0 8).hand 0).d.length = 2 := rfl
  go_enter Try.func8, Try.ntmps8
  go_wp2_with fail
  refine (new_sh _ 2 (by omega) (by omega)).mono ?_
  rintro r w1 ⟨rfl, L1, B1, Z1⟩
  go_wp2_with fail
  refine (post_sh _ _ _ _ 0 8 L1 (by decide) (by decide)).mono ?_
  rintro r w2 ⟨rfl, L2, O2⟩
  rw [v0]
  go_wp2_with fail
  refine (handle_sh _ _ _ _ 0 L2).mono ?_
  rintro r w3 ⟨rfl, L3, O3⟩
  rw [v1]
  go_wp2_with fail
  refine (pending_sh _ _ _ _ 1 L3 (by decide)).mono ?_
  rintro r w4 ⟨rfl, B4⟩
  rw [v3, v2]
  go_wp2_with fail
  go_ret
  have O : Only (fun k => w.heap.size ≤ k) w w3 := ((Only.of_below_n B1).trans (O2.mono (fun k hk => by omega))).trans (O3.mono (fun k hk => by omega))
  exact ⟨rfl, (O.below (Nat.le_refl _) (fun k hk => hk)).trans (B4.mono O.size)⟩
end Go.Proofs.Ytfekllnalacggaa
