/- Tlb: made; awake. -/
import Derived.Test.YtgmmnekepelomaaTlO
namespace Go.Proofs.Ytgmmnekepelomaa
open Go.RowKit
attribute [local go_sem ↓] ld30 st30 bs38
attribute [local go_sem] run_ld30 run_st30 tr_ones tr_size tr_take tr_extract tr_put tr_put' tr_len run_bs38

theorem results_tmp4 {fn : Func} {t u v x : Tmp} (h : fn.results = #[.tmp t, .tmp u, .tmp v, .tmp x]) (tmps : Array Value) (P : Program) (w : World) :
    (results fn tmps).run P w = .ok (.tuple #[tmps.getD t undef, tmps.getD u undef, tmps.getD v undef, tmps.getD x undef]) w := by simp [results, h]
def Tl.made (n : Nat) : Tl := ⟨n, []⟩
theorem made_ok {n : Nat} (h : 1 ≤ n) (h2 : n ≤ 64) : (Tl.made n).ok := ⟨h, h2, Nat.zero_le _, fun x hx => by cases hx⟩
theorem new_tl (w : World) (n : Nat) (h : 1 ≤ n) (h2 : n ≤ 64) : Calls Try.prog 20 #[.int .i64 n] w fun e w' => e = .returned (.tuple #[.pointer (some ⟨w.heap.size, 0, none⟩), .int .i64 0]) ∧ TlAt w' w.heap.size (Tl.made n) ∧ Below w.heap.size w w' ∧ w'.heap.size = w.heap.size + 1 := by
  refine (new_yes w n h h2).mono ?_
  rintro r w' ⟨rfl, rfl⟩
  refine ⟨rfl, ⟨made_ok h h2, _, 0, Blk.new _ _ _, by simpa using tlb0_size, by omega, ?_, ?_, ?_, fun k x hk => by simp [Tl.made] at hk⟩, (Below.refl _ _).alloc (Nat.le_refl _) _, by simp⟩
  · rw [Array.getElem?_setIfInBounds_ne (by decide)]; exact tlb0_256
  · rw [Array.getElem?_setIfInBounds_ne (by decide)]; exact tlb0_257
  · rw [Array.getElem?_setIfInBounds_self, if_pos (by rw [tlb0_size]; omega)]; rfl
theorem rNew_tl (w : World) (n base : Nat) (h : 1 ≤ n) (h2 : n ≤ 64) : Calls Try.prog 21 #[.int .i64 n] w fun e w' => e = .returned (.tuple #[.pointer (some ⟨w.heap.size, 0, none⟩), .int .i64 0]) ∧ RefAt w' base w.heap.size (.slice none 0 0) (Tl.made n) ∧ Below w.heap.size w w' ∧ w'.heap.size = w.heap.size + 1 := by
  refine (rNew_yes w n h h2).mono ?_
  rintro r w' ⟨rfl, rfl⟩
  exact ⟨rfl, ⟨made_ok h h2, Blk.new _ _ _, World.ownsRow_nil _ _ _ _⟩, (Below.refl _ _).alloc (Nat.le_refl _) _, by simp⟩

theorem made_no (w : World) (n : Int) (h : n < 1 ∨ 64 < n) :
    Calls Try.prog 7 #[.int .i64 n] w fun r w' => r = .returned (.tuple #[.pointer none, .pointer none, .bool true, .bool false]) ∧ w = w' := by
  have H := Lib.hid h; clear h
  go_enter Try.func7, Try.ntmps7
  go_wp2_with (first
    | (go_at_call 20; refine (new_no _ _ H.out).mono ?_; rintro r w1 ⟨rfl, rfl⟩)
    | (go_at_call 21; refine (rNew_no _ _ H.out).mono ?_; rintro r w1 ⟨rfl, rfl⟩))
  refine bodyPost_ret (results_tmp4 rfl _ _ _) rfl ?_
  exact ⟨rfl, rfl⟩
theorem made_yes (w : World) (n : Nat) (h1 : 1 ≤ n) (h2 : n ≤ 64) :
    Calls Try.prog 7 #[.int .i64 n] w fun r w' => ∃ b br base, r = .returned (.tuple #[.pointer (some ⟨b, 0, none⟩), .pointer (some ⟨br, 0, none⟩), .bool true, .bool true]) ∧
      St w' w.heap.size base b br (Tl.made n) ∧ Below w.heap.size w w' := by
  go_enter Try.func7, Try.ntmps7
  go_wp2_with (first
    | (go_at_call 20; refine (new_tl _ _ h1 h2).mono ?_; rintro r w1 ⟨rfl, L1, B1, Z1⟩)
    | (go_at_call 21; refine (rNew_tl _ _ (w.heap.size + 2) h1 h2).mono ?_; rintro r w2 ⟨rfl, R1, B2, Z2⟩))
  rw [Z1] at R1 Z2
  refine bodyPost_ret (results_tmp4 rfl _ _ _) rfl ?_
  exact ⟨_, _, w.heap.size + 2, rfl, ⟨L1.below B2, ⟨_, R1⟩, by omega, by omega, by omega, by omega, by omega⟩, B1.trans (B2.mono (by omega))⟩

def t1 : Tr := ⟨1, 1, 1, false⟩
def t2 : Tr := ⟨2, 2, 3, false⟩
set_option maxHeartbeats 1000000 in
theorem awake_any (w : World) : Calls Try.prog 10 #[] w fun r w' => r = .returned (.bool true) ∧ Below w.heap.size w w' := by
  have v1 : (((Tl.made 1).fill t1).fill t2).find 2 = some t2 := by decide +kernel
  have v2 : findV ((((Tl.made 1).fill t1).fill t2).find 2) = .tuple #[.agg #[.int .i64 2, .int .i64 2, .int .i64 3, .bool false], .bool true] := by rw [v1]; rfl
  clear v1
  have v3 : (((Tl.made 1).fill t1).fill t2).l.length = 1 := by decide +kernel
  have hones : ones #[.int .i64 2, .int .i64 2, .int .i64 3, .bool false] = true := by simp [ones, Value.oneCell']
  have hput : putAt #[.int .i64 0, .int .i64 0, .int .i64 0, .bool false] 0 [.int .i64 2, .int .i64 2, .int .i64 3, .bool false] = #[.int .i64 2, .int .i64 2, .int .i64 3, .bool false] := rfl
  go_enter Try.func10, Try.ntmps10
  go_wp2_with fail
  refine (new_tl _ 1 (by omega) (by omega)).mono ?_
  rintro r w1 ⟨rfl, L1, B1, Z1⟩
  go_wp2_with fail
  refine (fill_st _ _ _ t1 L1).mono ?_
  rintro r w2 ⟨rfl, L2, O2⟩
  go_wp2_with fail
  refine (fill_st _ _ _ t2 L2).mono ?_
  rintro r w3 ⟨rfl, L3, O3⟩
  go_wp2_with fail
  refine (find_st _ _ _ 2 L3).mono ?_
  rintro r w4 ⟨rfl, B4⟩
  rw [v2]
  have L4 := L3.below (B4.trans ((Below.refl w4.heap.size w4).alloc (Nat.le_refl _) (.cells #[.int .i64 2, .int .i64 2, .int .i64 3, .bool false] 30) |>.mono B4.size))
  obtain ⟨ok, cs, at0, hc, hs, hat, e1, e2, e3, hr⟩ := L4
  rw [v3] at e2
  go_wp2_with (go_at_call 14; refine (len_blk _ _ 1 cs hc e2).mono ?_; rintro r w5 ⟨rfl, rfl⟩)
  go_ret
  have O : Only (fun k => w.heap.size ≤ k) w w3 := ((Only.of_below_n B1).trans (O2.mono (fun k hk => by omega))).trans (O3.mono (fun k hk => by omega))
  exact ⟨rfl, ((O.below (Nat.le_refl _) (fun k hk => hk)).trans (B4.mono O.size)).alloc (Nat.le_trans O.size B4.size) _⟩
end Go.Proofs.Ytgmmnekepelomaa
