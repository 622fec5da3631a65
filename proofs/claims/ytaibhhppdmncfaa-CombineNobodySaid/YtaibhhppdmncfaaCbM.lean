/- Combine: Slots and what goes through it. -/
import Derived.Test.YtaibhhppdmncfaaCbL
import Derived.Test.YtaibhhppdmncfaaRfO
import Derived.Test.YtaibhhppdmncfaaMkL
namespace Go.Proofs.Ytaibhhppdmncfaa
open Go.RowKit Go.Maps Go.Shelf
attribute [local go_sem] Oper.semAt_some

theorem slots_any (p : Option Addr) (w : World) : Calls Try.prog 11 #[.pointer p] w fun r w' => r = .returned (.func (.func 29) #[] #[.pointer (some ⟨w.heap.size, 0, none⟩)]) ∧
    w.alloc (.cells #[.pointer p] 25) = w' := by
  have hmf : ∀ (fn : Fn) (first cap : Array Value) (w : World), (Instr.makeFunc fn first cap).run Try.prog w = .ok (.func fn first cap) w := fun _ _ _ _ => rfl
  go_enter Try.func11, Try.ntmps11
  go_wp2
  go_ret
  exact ⟨rfl, rfl⟩

def Cb.sl (s : Cb) (j : Nat) : Sl := s.l[j]?.getD default
abbrev Cb.enc (s : Cb) (j : Nat) : Array Value := #[(s.sl j).val]
theorem abides_alloc {β : Type} {B : Nat} {J : β → World → Prop} (h : AbidesFrom B J) (s : β) (W : World) (o : Obj) (hs : J s W) : J s (W.alloc o) :=
  h s W (W.alloc o) none hs ⟨rfl, rfl, rfl, by simp, fun k hk _ => Below.heap_alloc _ _ _ hk⟩ (fun r e => by cases e)
theorem mod_step {c d n : Nat} (h1 : c % n = d % n) (h2 : c < d) : c + n ≤ d := by
  rcases Nat.lt_or_ge d (c + n) with h | h
  · exfalso
    have h3 : (d - c) % n = 0 := by
      rw [← Nat.sub_mod_eq_zero_of_mod_eq h1.symm]
    rw [Nat.mod_eq_of_lt (by omega)] at h3
    omega
  · exact h
theorem Cb.own_mod {s : Cb} {i : Nat} (h : s.own i = true) : i % s.nodes = s.node := by
  unfold Cb.own at h
  simp at h
  omega
theorem Cb.own_of {s : Cb} {i : Nat} (h1 : i < s.cores) (h2 : i % s.nodes = s.node) : s.own i = true := by
  unfold Cb.own
  simp
  omega
/-- j slots stand below core c. -/
structure Upto (s : Cb) (c j : Nat) : Prop where
  hc : c % s.nodes = s.node
  hj : j ≤ s.l.length
  lo : ∀ a (h : a < s.l.length), a < j → s.l[a].core < c
  hi : ∀ a (h : a < s.l.length), j ≤ a → c ≤ s.l[a].core
theorem Upto.zero {s : Cb} (ok : s.ok) : Upto s s.node 0 :=
  ⟨Nat.mod_eq_of_lt ok.n1, Nat.zero_le _, fun a h h0 => by omega, fun a h _ => by
    have := Cb.own_mod (ok.mine s.l[a] (List.getElem_mem h))
    have h2 := Nat.mod_le s.l[a].core s.nodes
    omega⟩
theorem Upto.found {s : Cb} {c j : Nat} (ok : s.ok) (h : Upto s c j) {x : Sl} (hx : slotAt s.l c = some x) : ∃ hj : j < s.l.length, s.l[j] = x ∧ Upto s (c + s.nodes) (j + 1) := by
  obtain ⟨hm, hc⟩ := slotAt_core hx
  obtain ⟨a, ha, rfl⟩ := List.mem_iff_getElem.1 hm
  have hja : j ≤ a := by
    rcases Nat.lt_or_ge a j with h1 | h1
    · have := h.lo a ha h1; omega
    · exact h1
  have haj : a = j := by
    rcases Nat.lt_or_ge j a with h1 | h1
    · have h2 := h.hi j (by omega) (Nat.le_refl _)
      have h3 := List.pairwise_iff_getElem.1 ok.srt j a (by omega) ha h1
      omega
    · omega
  subst haj
  have hn := ok.n1
  refine ⟨ha, rfl, by rw [Nat.add_mod_right]; exact h.hc, ha, fun a' h' hlt => ?_, fun a' h' hge => ?_⟩
  · rcases Nat.lt_or_ge a' a with h1 | h1
    · have := h.lo a' h' h1; omega
    · have : a' = a := by omega
      subst this
      omega
  · have h3 := List.pairwise_iff_getElem.1 ok.srt a a' ha h' (by omega)
    refine mod_step (n := s.nodes) ?_ (by omega)
    rw [h.hc, Cb.own_mod (ok.mine s.l[a'] (List.getElem_mem h'))]
theorem Upto.skip {s : Cb} {c j : Nat} (ok : s.ok) (h : Upto s c j) (hx : slotAt s.l c = none) : Upto s (c + s.nodes) j := by
  have hn := ok.n1
  refine ⟨by rw [Nat.add_mod_right]; exact h.hc, h.hj, fun a' h' hlt => ?_, fun a' h' hge => ?_⟩
  · have := h.lo a' h' hlt; omega
  · have h1 := h.hi a' h' hge
    have h2 := none_ne hx s.l[a'] (List.getElem_mem h')
    refine mod_step (n := s.nodes) ?_ (by omega)
    rw [h.hc, Cb.own_mod (ok.mine s.l[a'] (List.getElem_mem h'))]
theorem Upto.last {s : Cb} {c j : Nat} (ok : s.ok) (h : Upto s c j) (hc : s.cores ≤ c) : j = s.l.length := by
  rcases Nat.lt_or_ge j s.l.length with h1 | h1
  · have h2 := h.hi j h1 (Nat.le_refl _)
    have h3 := Cb.own_lt (ok.mine s.l[j] (List.getElem_mem h1))
    omega
  · have := h.hj; omega

set_option maxRecDepth 100000 in
set_option maxHeartbeats 2000000 in
theorem slots1_in (n : Nat) (l B1 b m : Nat) (s : Cb) (wL : World) (S : Nat → Prop) (hS : ∀ k, S k → wL.heap.size ≤ k) (hL : CbAt wL b m s) (J Jx : List Nat → World → Prop) (W : World) (hBW : Below wL.heap.size wL W)
    (hY : ∀ pre x W, J pre W → pre.length < s.l.length → YieldAt Fence.wide (n - 1) Try.prog l (s.enc x) W fun e W' =>
      (e = .returned (.bool true) ∧ J (pre ++ [x]) W' ∧ Only S W W') ∨ (e = .returned (.bool false) ∧ Jx (pre ++ [x]) W'))
    (hA : ∀ pre W o, J pre W → J pre (W.alloc o))
    (hb1 : Blk W B1 25 #[.pointer (some ⟨b, 0, none⟩)]) (hb1n : ¬ S B1) (h0 : J [] W) :
    CallsIn Fence.wide n Try.prog 29 #[.func (.yield l) #[] #[], .pointer (some ⟨B1, 0, none⟩)] W fun e W' => (∃ v, e = .returned v) ∧
      ((∃ ys, ys = List.range s.l.length ∧ J ys W') ∨ (∃ pre, (∃ k, k ≤ s.l.length ∧ pre = List.range k) ∧ Jx pre W')) := by
  have k1 : W.cell? ⟨B1, 0, none⟩ = some (.pointer (some ⟨b, 0, none⟩)) := hb1.cell 0
  have HL := Lib.hid hL
  have HIS := Lib.hid (is_at W b m s (hL.below hBW))
  have ok := hL.ok
  have OK := Lib.hid ok
  have n1 := ok.n1
  have n2 := ok.n2
  have c2 := ok.c2
  obtain ⟨_, ⟨q, hb, _⟩, _⟩ := hL.below hBW
  have d0 : W.cell? ⟨b, 0, none⟩ = some (.int .i64 (s.node : Int)) := hb.cell 0
  have hU := Lib.hid (Upto.zero ok)
  have HB1 := Lib.hid hb1
  obtain ⟨NN, hNN⟩ : ∃ NN, s.nodes = NN := ⟨_, rfl⟩
  obtain ⟨CC, hCC⟩ : ∃ CC, s.cores = CC := ⟨_, rfl⟩
  have HNN := Lib.hid hNN
  have HCC := Lib.hid hCC
  rw [hNN] at n1 n2
  rw [hCC] at c2
  clear hb hL ok hb1 hNN hCC
  refine callsIn_of_wp Try.func29 rfl trivial ?_ rfl
  simp only [Try.ntmps29, List.size_toArray, List.length_cons, List.length_nil, Nat.reduceAdd, Nat.reduceSub, Array.replicate_succ, Array.replicate_zero, List.push_toArray, List.append_toArray, List.nil_append, List.cons_append]
  gi_wp2_with (gi_at_call 23; refine (callsIn_wide.2 HIS.out).mono ?_; rintro r w' ⟨rfl, rfl⟩)
  gi_loopw [3] (fun i' wr => ∃ c j : Nat, c < CC + NN ∧ Upto s c j ∧ i' = .int .i64 c ∧ J (List.range j) wr ∧ Only S W wr)
    (fun i' _ => CC + NN - (intOf i').toNat)
  case atStart => exact ⟨s.node, 0, by omega, hU.out, rfl, h0, Only.refl _ _⟩
  case round =>
    obtain ⟨c, j, hc, hUp, rfl, hJs, hnx⟩ := hrel
    clear h0 k1 d0
    have hWr := HL.out.below (hBW.trans (hnx.below hBW.size hS))
    obtain ⟨_, ⟨q, hb, _⟩, hm⟩ := id hWr
    have k1 : wr.cell? ⟨B1, 0, none⟩ = some (.pointer (some ⟨b, 0, none⟩)) := (HB1.out.only hnx hb1n).cell 0
    have d1 : wr.cell? ⟨b, 1, none⟩ = some (.int .i64 (NN : Int)) := by rw [← HNN.out]; exact hb.cell 1
    have d2 : wr.cell? ⟨b, 2, none⟩ = some (.int .i64 (CC : Int)) := by rw [← HCC.out]; exact hb.cell 2
    have d3 : wr.cell? ⟨b, 3, none⟩ = some (.map (some m)) := hb.cell 3
    have hlb := hb.lt
    have hl1 := (HB1.out.only hnx hb1n).lt
    have HUP := Lib.hid hUp
    have HNX := Lib.hid hnx
    by_cases hlt : c < CC
    · have hlk := (map_look hm (c : Int) (by omega) (by omega)).2
      rw [find_slot] at hlk
      cases hs : slotAt s.l c with
      | none =>
        rw [hs] at hlk
        have hl' : (Instr.lookup 59 (.map (some m)) (.int .i64 (c : Int)) true).run Try.prog wr = .ok (.tuple #[.agg #[.int .i64 0, .int .i64 0, .int .i64 0, .int .i64 0, .int .i64 0, .int .i64 0, .int .i64 0, .int .i64 0, .int .i64 0, .bool false, .bool false, .int .i64 0], .bool false]) wr := hlk
        have hup := Lib.hid (HUP.out.skip OK.out hs)
        have HJ := Lib.hid hJs
        clear hlk hs hUp hJs hb hm hWr hnx
        gi_wp2_with fail
        go_roundw
        case rel =>
          refine ⟨c + NN, j, by omega, by rw [← HNN.out]; exact hup.out, by go_num, hA _ _ _ HJ.out, HNX.out.alloc _⟩
        case measure => simp [intOf]; omega
      | some x =>
        rw [hs] at hlk
        obtain ⟨hj, hxj, hup⟩ := HUP.out.found OK.out hs
        have hsl : s.sl j = x := by unfold Cb.sl; rw [List.getElem?_eq_getElem hj, hxj]; rfl
        have hxc := (slotAt_core hs).2
        have hup' := Lib.hid hup
        obtain ⟨fn, tmps, assign, body, hy, hR⟩ := hY _ j (wr.alloc (.cells x.cells.toArray 49)) (hA _ _ _ hJs) (by rw [List.length_range]; exact hj)
        have henc : s.enc j = #[x.val] := by show #[(s.sl j).val] = _; rw [hsl]
        rw [henc] at hy
        obtain ⟨co, ⟨e1, e2, e3, e4, e5, e6, e7, e8⟩, tk, td, ix⟩ := x
        have hl' : (Instr.lookup 59 (.map (some m)) (.int .i64 (c : Int)) true).run Try.prog wr = .ok (.tuple #[.agg #[.int .i64 (co : Int), .int .i64 e1, .int .i64 e2, .int .i64 e3, .int .i64 e4, .int .i64 e5, .int .i64 e6, .int .i64 e7, .int .i64 e8, .bool tk, .bool td, .int .i64 ix], .bool true]) wr := hlk
        simp only [Sl.val, Sl.cells] at hy hR
        have hup2 := Lib.hid (show List.range (j + 1) = List.range j ++ [j] from List.range_succ)
        clear hlk hs hUp hb hm hWr hnx hxj hup henc hsl hxc
        gi_wp2_with fail
        refine hR.mono ?_
        have hal : Only S wr (wr.alloc (.cells #[.int .i64 (co : Int), .int .i64 e1, .int .i64 e2, .int .i64 e3, .int .i64 e4, .int .i64 e5, .int .i64 e6, .int .i64 e7, .int .i64 e8, .bool tk, .bool td, .int .i64 ix] 49)) := (Only.refl _ wr).alloc _
        rintro e W3 (⟨rfl, hJ3, hk3⟩ | ⟨rfl, hJx3⟩)
        · have hn3 := HNX.out.trans (hal.trans hk3)
          have k3 : W3.cell? ⟨B1, 0, none⟩ = some (.pointer (some ⟨b, 0, none⟩)) := (HB1.out.only hn3 hb1n).cell 0
          have d13 : W3.cell? ⟨b, 1, none⟩ = some (.int .i64 (NN : Int)) := by
            obtain ⟨_, ⟨q, hb, _⟩, _⟩ := HL.out.below (hBW.trans (hn3.below hBW.size hS))
            rw [← HNN.out]; exact hb.cell 1
          have HN3 := Lib.hid hn3
          clear hn3 hk3
          gi_wp2_with fail
          go_roundw
          case rel => exact ⟨c + NN, j + 1, by omega, by rw [← HNN.out]; exact hup'.out, by go_num, by rw [hup2.out]; exact hJ3, HN3.out⟩
          case measure => simp [intOf]; omega
        · gi_wp2_with fail
          refine bodyPost_ret (results_none rfl _ _ _) rfl ?_
          exact ⟨⟨_, rfl⟩, .inr ⟨_, ⟨j + 1, by omega, hup2.out.symm⟩, hJx3⟩⟩
    · have hlt' : decide (c < CC) = false := by simpa using hlt
      have hlast := HUP.out.last OK.out (by rw [HCC.out]; omega)
      have HLAST := Lib.hid hlast
      clear hUp hb hm hWr hnx hlast
      gi_wp2_with fail
      go_end0
      exact ⟨⟨_, rfl⟩, .inl ⟨_, rfl, by rw [← HLAST.out]; exact hJs⟩⟩
theorem slots1_stops (n B1 b m : Nat) (s : Cb) (wL w0 : World) (S : Nat → Prop) (hS : ∀ k, S k → wL.heap.size ≤ k) (hB : Below wL.heap.size wL w0) (hb1n : ¬ S B1)
    (hb1 : Blk w0 B1 25 #[.pointer (some ⟨b, 0, none⟩)]) (hL : CbAt wL b m s) :
    SeqStopsK Fence.wide n Try.prog 29 #[.pointer (some ⟨B1, 0, none⟩)] s.enc (Only S)
      (fun ys => ys = List.range s.l.length) (fun pre => ∃ k, k ≤ s.l.length ∧ pre = List.range k) s.l.length w0 := fun l J Jx W hW hJ _ hY h0 =>
  slots1_in n l B1 b m s wL S hS hL J Jx W (hB.trans (hW.mono hB.size)) hY (fun pre W o h => abides_alloc hJ pre W o h) (hb1.below hW hb1.lt) hb1n h0
end Go.Proofs.Ytaibhhppdmncfaa
