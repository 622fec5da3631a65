/- Oplog: All and At. -/
import Derived.Test.YtjeikkecdgnkoaaOlE
import Derived.Test.YtjeikkecdgnkoaaRfL
namespace Go.Proofs.Ytjeikkecdgnkoaa
open Go.RowKit Go.Shelf
attribute [local go_sem] Oper.semAt_some
attribute [local go_sem ↓] ld35 st35 ld42
attribute [local go_sem] run_ld35 run_st35

theorem all_any (p : Option Addr) (w : World) : Calls Try.prog 18 #[.pointer p] w fun r w' => r = .returned (.func (.func 23) #[] #[.pointer (some ⟨w.heap.size, 0, none⟩)]) ∧ w.alloc (.cells #[.pointer p] 23) = w' := by
  have hmf : ∀ (fn : Fn) (first cap : Array Value) (w : World), (Instr.makeFunc fn first cap).run Try.prog w = .ok (.func fn first cap) w := fun _ _ _ _ => rfl
  go_enter Try.func18, Try.ntmps18
  go_wp2
  go_ret
  exact ⟨rfl, rfl⟩

instance : Inhabited Ent := ⟨⟨0, 0, 0, 0, 0, 0, 0, 0, 0⟩⟩
/-- What All tells as the j-th: its index, its entry. -/
def Ol.ix (s : Ol) (j : Nat) : Nat := s.first + j
def Ol.en (s : Ol) (j : Nat) : Ent := s.l[s.first + j]?.getD default
abbrev Ol.enc (s : Ol) (j : Nat) : Array Value := #[.int .i64 (s.ix j : Int), (s.en j).val]

set_option maxRecDepth 100000 in
set_option maxHeartbeats 1000000 in
theorem all1_in (n : Nat) (l Bs n₀ b e : Nat) (s : Ol) (hlen : s.l.length < 9223372036854775807) (hBs : Bs < n₀) (hb : b < n₀) (he : e < n₀) (J Jx : List Nat → World → Prop) (W : World)
    (hY : ∀ pre x W, J pre W → pre.length < s.l.length - s.first → YieldAt Fence.wide (n - 1) Try.prog l (s.enc x) W fun e W' =>
      (e = .returned (.bool true) ∧ J (pre ++ [x]) W' ∧ Below n₀ W W') ∨ (e = .returned (.bool false) ∧ Jx (pre ++ [x]) W'))
    (hD : ∀ pre W, J pre W → J pre W.drew) 
    (hbox : Blk W Bs 23 #[.pointer (some ⟨b, 0, none⟩)]) (hL : LogAt W b e s) (h0 : J [] W) :
    CallsIn Fence.wide n Try.prog 23 #[.func (.yield l) #[] #[], .pointer (some ⟨Bs, 0, none⟩)] W fun e W' => (∃ v, e = .returned v) ∧
      ((∃ ys, ys = List.range (s.l.length - s.first) ∧ J ys W') ∨ (∃ pre, (∃ k, k ≤ s.l.length - s.first ∧ pre = List.range k) ∧ Jx pre W')) := by
  have hok := hL.ok
  have hs1 := hok.s1
  have hs2 := hok.s2
  have hsf := hok.f
  have hsn := hok.n
  clear hok
  have k0 : W.cell? ⟨Bs, 0, none⟩ = some (.pointer (some ⟨b, 0, none⟩)) := hbox.cell 0
  have HL := Lib.hid hL; clear hL
  have HB := Lib.hid hbox; clear hbox
  refine callsIn_of_wp Try.func23 rfl trivial ?_ rfl
  simp only [Try.ntmps23, List.size_toArray, List.length_cons, List.length_nil, Nat.reduceAdd, Nat.reduceSub, Array.replicate_succ, Array.replicate_zero, List.push_toArray, List.append_toArray, List.nil_append, List.cons_append]
  gi_wp2_with (gi_at_call 13; refine (callsIn_wide.2 (head_blk _ _ _ _ _ HL.out.hb)).mono ?_; rintro r w' ⟨rfl, rfl⟩)
  gi_loopw [3] (fun i wr => ∃ k : Nat, s.first ≤ k ∧ k ≤ s.l.length ∧ i = .int .i64 k ∧ J (List.range (k - s.first)) wr ∧ Below n₀ W wr)
    (fun i _ => s.l.length - (intOf i).toNat)
  case atStart => exact ⟨s.first, Nat.le_refl _, hsf, rfl, by rw [Nat.sub_self]; exact h0, Below.refl _ _⟩
  case round =>
    obtain ⟨k, hk1, hk2, rfl, hJs, hnx⟩ := hrel
    have k1 : wr.cell? ⟨Bs, 0, none⟩ = some (.pointer (some ⟨b, 0, none⟩)) := (hnx.cell (p := ⟨Bs, 0, none⟩) hBs).trans k0
    have L1 := HL.out.only (Only.of_below_n hnx) (by omega) (by omega)
    have H1 := Lib.hid L1
    obtain ⟨_, hbb, cs, hc, hsz, hx⟩ := L1
    have c0 : wr.cell? ⟨b, 0, none⟩ = some (.slice (some ⟨e, 0, none⟩) s.slots s.slots) := hbb.cell 0
    have r1 : rowOf wr e = cs := hc.rowOf
    have r2 : plainRow wr e = true := hc.plain
    clear k0 h0
    by_cases hlt : k < s.l.length
    · have hx9 := hx k s.l[k] hk1 (List.getElem?_eq_getElem hlt)
      have hnz : ¬ s.slots = 0 := by omega
      have hm0 : 0 ≤ (k : Int) % (s.slots : Int) := Int.emod_nonneg _ (by omega)
      have hm1 : (k : Int) % (s.slots : Int) < s.slots := Int.emod_lt_of_pos _ (by omega)
      have hfit : k % s.slots * 9 + 9 ≤ cs.size := by
        have : k % s.slots < s.slots := Nat.mod_lt _ (by omega)
        rw [hsz]; omega
      obtain ⟨fn, tmps, assign, body, hy, hR⟩ := hY _ (k - s.first) wr.drew (hD _ _ hJs) (by rw [List.length_range]; omega)
      have henc : s.enc (k - s.first) = #[.int .i64 (k : Int), s.l[k].val] := by
        have h1 : s.ix (k - s.first) = k := by unfold Ol.ix; omega
        have h2 : s.en (k - s.first) = s.l[k] := by unfold Ol.en; rw [show s.first + (k - s.first) = k by omega, List.getElem?_eq_getElem hlt]; rfl
        rw [Ol.enc, h1, h2]
      rw [henc] at hy
      clear henc
      clear hx hsz hbb hc
      gi_wp2_with (first
        | (gi_at_call 14; refine (callsIn_wide.2 (tail_blk _ _ _ _ _ H1.out.hb)).mono ?_; rintro r w' ⟨rfl, rfl⟩)
        | (refine wpIn_region_still_tail (wide_wide n) 15 (by kernel_rfl) (by kernel_rfl) (by kernel_rfl) ?_
           simp only [List.take_succ_cons, List.take_zero, List.drop_succ_cons, List.drop_zero]
           repeat (refine wpStill_step (fun K hK => ?_); go_simp; (try go_bits); refine hK _ ?_; clear hK K)
           refine wpStill_nil ?_))
      have hup : Hid (List.range (k + 1 - s.first) = List.range (k - s.first) ++ [k - s.first]) := by
        rw [show k + 1 - s.first = (k - s.first) + 1 by omega, List.range_succ]
        exact rfl
      refine hR.mono ?_
      rintro e W3 (⟨rfl, hJ3, hk3⟩ | ⟨rfl, hJx3⟩)
      · gi_wp2
        go_roundw
        case rel => exact ⟨k + 1, by omega, by omega, by simp, by rw [hup.out]; exact hJ3, hnx.drew.trans hk3⟩
        case measure => simp [intOf]; omega
      · gi_wp2
        refine bodyPost_ret (results_none rfl _ _ _) rfl ?_
        exact ⟨⟨_, rfl⟩, .inr ⟨_, ⟨k + 1 - s.first, by omega, hup.out.symm⟩, hJx3⟩⟩
    · obtain rfl : k = s.l.length := by omega
      gi_wp2_with (gi_at_call 14; refine (callsIn_wide.2 (tail_blk _ _ _ _ _ H1.out.hb)).mono ?_; rintro r w' ⟨rfl, rfl⟩)
      go_end0
      exact ⟨⟨_, rfl⟩, .inl ⟨_, rfl, hJs⟩⟩

theorem abides_drew {β : Type} {B : Nat} {J : β → World → Prop} (h : AbidesFrom B J) (s : β) (W : World) (hs : J s W) : J s W.drew :=
  h s W W.drew none hs ⟨rfl, rfl, rfl, Nat.le_refl _, fun _ _ _ => rfl⟩ (fun r e => by cases e)

theorem all1_stops (n : Nat) (Bs n₀ b e : Nat) (s : Ol) (w0 : World) (hlen : s.l.length < 9223372036854775807) (hBs : Bs < n₀) (hb : b < n₀) (he : e < n₀) (hn₀ : n₀ ≤ w0.heap.size)
    (hbox : Blk w0 Bs 23 #[.pointer (some ⟨b, 0, none⟩)]) (hL : LogAt w0 b e s) :
    SeqStopsK Fence.wide n Try.prog 23 #[.pointer (some ⟨Bs, 0, none⟩)] s.enc (Below n₀)
      (fun ys => ys = List.range (s.l.length - s.first)) (fun pre => ∃ k, k ≤ s.l.length - s.first ∧ pre = List.range k) (s.l.length - s.first) w0 := fun l J Jx W hW hJ _ hY h0 =>
  all1_in n l Bs n₀ b e s hlen hBs hb he J Jx W hY (fun pre W h => abides_drew hJ pre W h) (hbox.below hW (by omega)) (hL.below hW) h0
end Go.Proofs.Ytjeikkecdgnkoaa
