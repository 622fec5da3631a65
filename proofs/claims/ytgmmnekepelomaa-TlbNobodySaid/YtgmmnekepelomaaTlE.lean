/- Tlb: All and what goes through it. -/
import Derived.Test.YtgmmnekepelomaaTlD
import Derived.Test.YtgmmnekepelomaaRfL
import Derived.Test.YtgmmnekepelomaaMkL
namespace Go.Proofs.Ytgmmnekepelomaa
open Go.RowKit Go.Shelf
attribute [local go_sem] Oper.semAt_some
attribute [local go_sem ↓] ld30 st30
attribute [local go_sem] run_ld30 run_st30 tr_ones tr_size tr_take tr_extract tr_put tr_put' tr_len

theorem all_any (p : Option Addr) (w : World) : Calls Try.prog 19 #[.pointer p] w fun r w' => r = .returned (.func (.func 31) #[] #[.pointer (some ⟨w.heap.size, 0, none⟩)]) ∧
    w.alloc (.cells #[.pointer p] 23) = w' := by
  have hmf : ∀ (fn : Fn) (first cap : Array Value) (w : World), (Instr.makeFunc fn first cap).run Try.prog w = .ok (.func fn first cap) w := fun _ _ _ _ => rfl
  go_enter Try.func19, Try.ntmps19
  go_wp2
  go_ret
  exact ⟨rfl, rfl⟩

def Tl.tr (s : Tl) (j : Nat) : Tr := s.l[j]?.getD default
abbrev Tl.enc (s : Tl) (j : Nat) : Array Value := #[(s.tr j).val]

set_option maxRecDepth 100000 in
set_option maxHeartbeats 2000000 in
theorem all1_in (n : Nat) (l B1 n₀ b : Nat) (s : Tl) (wL : World) (hn₀ : wL.heap.size ≤ n₀) (hL : TlAt wL b s) (J Jx : List Nat → World → Prop) (W : World) (hBW : Below wL.heap.size wL W)
    (hY : ∀ pre x W, J pre W → pre.length < s.l.length → YieldAt Fence.wide (n - 1) Try.prog l (s.enc x) W fun e W' =>
      (e = .returned (.bool true) ∧ J (pre ++ [x]) W' ∧ Below n₀ W W') ∨ (e = .returned (.bool false) ∧ Jx (pre ++ [x]) W'))
    (hA : ∀ pre W, J pre W → J pre W.drew)
    (hb1 : Blk W B1 23 #[.pointer (some ⟨b, 0, none⟩)]) (hb1n : B1 < n₀) (h0 : J [] W) :
    CallsIn Fence.wide n Try.prog 31 #[.func (.yield l) #[] #[], .pointer (some ⟨B1, 0, none⟩)] W fun e W' => (∃ v, e = .returned v) ∧
      ((∃ ys, ys = List.range s.l.length ∧ J ys W') ∨ (∃ pre, (∃ k, k ≤ s.l.length ∧ pre = List.range k) ∧ Jx pre W')) := by
  have k1 : W.cell? ⟨B1, 0, none⟩ = some (.pointer (some ⟨b, 0, none⟩)) := hb1.cell 0
  obtain ⟨ok, cs, at0, hc, hs, hat, e1, e2, e3, hr⟩ := hL
  have h64 : s.l.length ≤ 64 := Nat.le_trans ok.n ok.s2
  have hlc := hc.lt
  have HLen := Lib.hid (len_blk W b s.l.length cs (hc.below hBW hlc) e2)
  have HB1 := Lib.hid hb1
  have HC := Lib.hid hc
  have HR := Lib.hid hr
  have E0 := Lib.hid hs
  have E1 := Lib.hid e1
  clear hc hr hs e1 e2 e3 hb1
  refine callsIn_of_wp Try.func31 rfl trivial ?_ rfl
  simp only [Try.ntmps31, List.size_toArray, List.length_cons, List.length_nil, Nat.reduceAdd, Nat.reduceSub, Array.replicate_succ, Array.replicate_zero, List.push_toArray, List.append_toArray, List.nil_append, List.cons_append]
  gi_wp2_with (gi_at_call 14; refine (callsIn_wide.2 HLen.out).mono ?_; rintro r w' ⟨rfl, rfl⟩)
  gi_loopw [6] (fun i' wr => ∃ j : Nat, j ≤ s.l.length ∧ i' = .int .i64 j ∧ J (List.range j) wr ∧ Below n₀ W wr)
    (fun i' _ => s.l.length - (intOf i').toNat)
  case atStart => exact ⟨0, Nat.zero_le _, rfl, h0, Below.refl _ _⟩
  case round =>
    obtain ⟨j, hj, rfl, hJs, hnx⟩ := hrel
    clear h0 k1
    by_cases hlt : j < s.l.length
    · have hcw : Blk wr b 50 cs := (HC.out.below hBW hlc).below hnx (by omega)
      obtain ⟨q, hq⟩ : ∃ q, q = (at0 + j) % 64 := ⟨_, rfl⟩
      have hq64 : q < 64 := by omega
      have hq0 : (0 : Int) ≤ (q : Int) := Int.natCast_nonneg _
      have hq1 : (q : Int) < 64 := by omega
      have hcs := E0.out
      have hfit : q * 4 + 4 ≤ cs.size := by omega
      have hext : cs.extract (q * 4) (q * 4 + 4) = (s.tr j).cells.toArray := by
        rw [hq]
        refine HR.out j _ ?_
        unfold Tl.tr
        rw [List.getElem?_eq_getElem hlt]; rfl
      have r1 := hcw.rowOf
      have r2 := hcw.plain
      have k1 : wr.cell? ⟨B1, 0, none⟩ = some (.pointer (some ⟨b, 0, none⟩)) := (HB1.out.below hnx hb1n).cell 0
      have hi : Calls Try.prog 27 #[.pointer (some ⟨b, 0, none⟩), .int .i64 j] wr.drew fun r w' => r = .returned (.int .i64 (q : Nat)) ∧ wr.drew = w' := by
        rw [hq]
        exact i_blk _ b at0 j cs hcw.drew E1.out hat (by omega)
      have HI := Lib.hid hi
      have HQ := Lib.hid hq
      obtain ⟨x, hx⟩ : ∃ x, s.tr j = x := ⟨_, rfl⟩
      obtain ⟨fn, tmps, assign, body, hy, hR⟩ := hY _ j wr.drew (hA _ _ hJs) (by rw [List.length_range]; exact hlt)
      have henc : s.enc j = #[x.val] := by show #[(s.tr j).val] = _; rw [hx]
      rw [henc] at hy
      rw [hx] at hext
      have HX := Lib.hid hx
      clear hcw hi hq hcs henc hx
      have hup := Lib.hid (show List.range (j + 1) = List.range j ++ [j] from List.range_succ)
      gi_wp2_with fail
      refine wpIn_region_stG (wide_wide n) 9 (by kernel_rfl) (by kernel_rfl) (by kernel_rfl) ?_
      simp only [List.take_succ_cons, List.take_zero, List.drop_succ_cons, List.drop_zero]
      repeat (first
        | (refine StG.want rfl (fun K hK => ?_); go_simp; (try go_bits); refine hK _ ?_; clear hK K)
        | (refine StG.want rfl (fun K hK => ?_); go_simp; refine ⟨_, HI.out.mono (fun _ _ h => ⟨h.1, h.2.symm⟩), hK _ ?_⟩; clear hK K))
      refine StG.nil ?_
      gi_wp2_with fail
      refine hR.mono ?_
      have hal : Below n₀ wr wr.drew := (Below.refl _ wr).drew
      rintro e W3 (⟨rfl, hJ3, hk3⟩ | ⟨rfl, hJx3⟩)
      · gi_wp2
        go_roundw
        case rel => exact ⟨j + 1, by omega, by go_num, by rw [hup.out]; exact hJ3, (hnx.trans hal).trans hk3⟩
        case measure => simp [intOf]; omega
      · gi_wp2
        refine bodyPost_ret (results_none rfl _ _ _) rfl ?_
        exact ⟨⟨_, rfl⟩, .inr ⟨_, ⟨j + 1, by omega, hup.out.symm⟩, hJx3⟩⟩
    · obtain rfl : j = s.l.length := by omega
      gi_wp2_with fail
      go_end0
      exact ⟨⟨_, rfl⟩, .inl ⟨_, rfl, hJs⟩⟩

theorem abides_drew {β : Type} {B : Nat} {J : β → World → Prop} (h : AbidesFrom B J) (s : β) (W : World) (hs : J s W) : J s W.drew :=
  h s W W.drew none hs ⟨rfl, rfl, rfl, Nat.le_refl _, fun k hk _ => rfl⟩ (fun r e => by cases e)
theorem all1_stops (n B1 n₀ b : Nat) (s : Tl) (wL w0 : World) (hn₀ : wL.heap.size ≤ n₀) (hB : Below wL.heap.size wL w0) (hb1n : B1 < n₀)
    (hb1 : Blk w0 B1 23 #[.pointer (some ⟨b, 0, none⟩)]) (hL : TlAt wL b s) :
    SeqStopsK Fence.wide n Try.prog 31 #[.pointer (some ⟨B1, 0, none⟩)] s.enc (Below n₀)
      (fun ys => ys = List.range s.l.length) (fun pre => ∃ k, k ≤ s.l.length ∧ pre = List.range k) s.l.length w0 := fun l J Jx W hW hJ _ hY h0 =>
  all1_in n l B1 n₀ b s wL hn₀ hL J Jx W (hB.trans (hW.mono hB.size)) hY (fun pre W h => abides_drew hJ pre W h) (hb1.below hW hb1.lt) hb1n h0
end Go.Proofs.Ytgmmnekepelomaa
