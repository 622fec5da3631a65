/- Shoot: Queue and what goes through it. -/
import Derived.Test.YtfekllnalacggaaShH
import Derived.Test.YtfekllnalacggaaRfL
namespace Go.Proofs.Ytfekllnalacggaa
open Go.RowKit Go.Shelf
attribute [local go_sem] Oper.semAt_some

theorem ld61 (v : Value) : Instr.loadAt 61 v = ldAgg 61 v := rfl
theorem st61 (v x : Value) : Instr.storeAt 61 v x = stAgg 61 v x := rfl
theorem run_ld61 (w : World) (g off : Nat) (hp : plainRow w g = true) (hfit : off + 3 ≤ (rowOf w g).size) :
    (ldAgg 61 (.pointer (some ⟨g, off, none⟩))).run Try.prog w = .ok (.agg ((rowOf w g).extract off (off + 3))) w :=
  run_loadAt_row w g off 3 61 _ Try.underlying61 rfl (by kernel_rfl) hp hfit
theorem run_st61 (w : World) (g off : Nat) (vs : Array Value) (hp : plainRow w g = true) (hs : vs.size = 3) (h1 : ones vs = true) (hfit : off + 3 ≤ (rowOf w g).size) :
    (stAgg 61 (.pointer (some ⟨g, off, none⟩)) (.agg vs)).run Try.prog w = .ok () (w.setRow g (putAt (rowOf w g) off vs.toList)) :=
  run_storeAt_row w g off 3 61 vs (by kernel_rfl) hp hs h1 hfit
attribute [local go_sem ↓] ld35 st35 ld61 st61
attribute [local go_sem] run_ld35 run_st35 run_ld61 run_st61

theorem ask_ones' (g : Nat) (x : Req) : ones (askC g x).toArray = true := by simp [ones, askC, Value.oneCell']
theorem ask_size (g : Nat) (x : Req) : (askC g x).toArray.size = 3 := rfl
theorem ask_len (g : Nat) (x : Req) : (askC g x).length = 3 := rfl
theorem ask_put (g : Nat) (x : Req) (a b c : Value) : putAt #[a, b, c] 0 (askC g x) = (askC g x).toArray := rfl
theorem ask_0 (g : Nat) (x : Req) : (askC g x)[0]? = some (.int .i64 (g : Int)) := rfl
theorem ask_ext (g : Nat) (x : Req) : (askC g x).toArray.extract 1 3 = x.cells.toArray := rfl
theorem ask_ext' (g : Nat) (x : Req) : (askC g x).toArray.extract 0 3 = (askC g x).toArray := rfl
theorem ask_take (g : Nat) (x : Req) : List.take 2 (List.drop 1 (askC g x)) = x.cells := rfl
theorem ask_g0 (g : Nat) (x : Req) (h : 0 < (askC g x).length) : (askC g x)[0]'h = .int .i64 (g : Int) := rfl
theorem ask_tail (g : Nat) (x : Req) : List.take 2 (askC g x).tail = x.cells := rfl
attribute [local go_sem] ask_g0 ask_tail ask_ones' ask_size ask_len ask_put ask_0 ask_ext ask_ext' ask_take req_ones req_size req_take req_extract putAt2 req_len req_0 req_1

theorem queue_any (p : Option Addr) (i : Int) (w : World) : Calls Try.prog 16 #[.pointer p, .int .i64 i] w fun r w' => r = .returned (.func (.func 24) #[] #[.pointer (some ⟨w.heap.size, 0, none⟩), .pointer (some ⟨w.heap.size + 1, 0, none⟩)]) ∧
    (w.alloc (.cells #[.pointer p] 23)).alloc (.cells #[.int .i64 i] 3) = w' := by
  have hmf : ∀ (fn : Fn) (first cap : Array Value) (w : World), (Instr.makeFunc fn first cap).run Try.prog w = .ok (.func fn first cap) w := fun _ _ _ _ => rfl
  go_enter Try.func16, Try.ntmps16
  go_wp2
  go_ret
  exact ⟨rfl, rfl⟩

theorem extract3 {cs : Array Value} {o : Nat} {g : Nat} {x : Req} (hfit : o + 3 ≤ cs.size) (h : ∀ u, u < 3 → cs[o + u]? = (askC g x)[u]?) : cs.extract o (o + 3) = (askC g x).toArray := by
  apply Array.ext
  · simp [ask_len]; omega
  · intro i h1 h2
    have hi : i < 3 := by simpa [ask_len] using h2
    have h3 := h i hi
    rw [Array.getElem_extract]
    rw [Array.getElem?_eq_getElem (by omega), List.getElem?_eq_getElem (by rw [ask_len]; exact hi)] at h3
    simpa using h3

instance : Inhabited Req := ⟨⟨0, 0⟩⟩
/-- What the queue tells as the j-th: its generation, its request. -/
def Sh.gn (s : Sh) (i : Int) (j : Nat) : Nat := s.did i + j + 1
def Sh.rq (s : Sh) (i : Int) (j : Nat) : Req := s.l[s.did i + j]?.getD default
abbrev Sh.enc (s : Sh) (i : Int) (j : Nat) : Array Value := #[.int .i64 (s.gn i j : Int), .agg (s.rq i j).cells.toArray]
def Sh.left (s : Sh) (i : Int) : Nat := s.l.length - s.did i

theorem core_q (w : World) (b e : Nat) (s : Sh) (i : Int) (h : ShAt w b e s) : ∃ q, QAt w q s.l (s.did i) ∧ ∀ W, Below w.heap.size w W →
    Calls Try.prog 19 #[.pointer (some ⟨b, 0, none⟩), .int .i64 i] W fun r w' => r = .returned q ∧ W = w' := by
  obtain ⟨ok, hb, cs, hc, hs, hx⟩ := h
  unfold Sh.did
  by_cases hi : 0 ≤ i ∧ i < s.d.length
  · obtain ⟨k, rfl⟩ := Int.eq_ofNat_of_zero_le hi.1
    have hk : k < s.d.length := by omega
    obtain ⟨q, e1, e2⟩ := hx k _ (List.getElem?_eq_getElem hk)
    refine ⟨q, ?_, fun W hW => core_in W b e _ k _ q cs (hb.below hW hb.lt) (hc.below hW hc.lt) hk e1⟩
    rw [if_pos hi, Int.toNat_natCast, List.getElem?_eq_getElem hk]
    exact e2
  · refine ⟨_, ?_, fun W hW => core_out W b _ _ _ _ i (hb.below hW hb.lt) (by omega)⟩
    rw [if_neg hi]
    exact QAt.empty_ w s.l

set_option maxRecDepth 100000 in
set_option maxHeartbeats 2000000 in
theorem queue1_in (n : Nat) (l B1 B2 n₀ b e : Nat) (s : Sh) (i : Int) (wL : World) (hlen : s.l.length < 9223372036854775807) (hn₀ : wL.heap.size ≤ n₀) (hL : ShAt wL b e s) (J Jx : List Nat → World → Prop) (W : World) (hBW : Below wL.heap.size wL W)
    (hY : ∀ pre x W, J pre W → pre.length < s.left i → YieldAt Fence.wide (n - 1) Try.prog l (s.enc i x) W fun e W' =>
      (e = .returned (.bool true) ∧ J (pre ++ [x]) W' ∧ Below n₀ W W') ∨ (e = .returned (.bool false) ∧ Jx (pre ++ [x]) W'))
    (hA : ∀ pre W o, J pre W → J pre (W.alloc o)) (hW : n₀ ≤ W.heap.size)
    (hb1 : Blk W B1 23 #[.pointer (some ⟨b, 0, none⟩)]) (hb2 : Blk W B2 3 #[.int .i64 i]) (h0 : J [] W) :
    CallsIn Fence.wide n Try.prog 24 #[.func (.yield l) #[] #[], .pointer (some ⟨B1, 0, none⟩), .pointer (some ⟨B2, 0, none⟩)] W fun e W' => (∃ v, e = .returned v) ∧
      ((∃ ys, ys = List.range (s.left i) ∧ J ys W') ∨ (∃ pre, (∃ k, k ≤ s.left i ∧ pre = List.range k) ∧ Jx pre W')) := by
  have k1 : W.cell? ⟨B1, 0, none⟩ = some (.pointer (some ⟨b, 0, none⟩)) := hb1.cell 0
  have k2 : W.cell? ⟨B2, 0, none⟩ = some (.int .i64 i) := hb2.cell 0
  obtain ⟨q, ⟨a, qc, rfl, hcap, hrow⟩, hcore⟩ := core_q wL b e s i hL
  have HC := Lib.hid (hcore W hBW)
  clear hL hb1 hb2 hcore
  refine callsIn_of_wp Try.func24 rfl trivial ?_ rfl
  simp only [Try.ntmps24, List.size_toArray, List.length_cons, List.length_nil, Nat.reduceAdd, Nat.reduceSub, Array.replicate_succ, Array.replicate_zero, List.push_toArray, List.append_toArray, List.nil_append, List.cons_append]
  gi_wp2_with fail
  refine (callsIn_wide.2 HC.out).mono ?_
  rintro r w' ⟨rfl, rfl⟩
  gi_wp2_with fail
  have hN : s.l.length - s.did i = s.left i := rfl
  rw [hN] at hcap hrow ⊢
  have hNl : s.left i ≤ s.l.length := by unfold Sh.left; omega
  gi_loopw [10] (fun i' wr => ∃ j : Nat, j ≤ s.left i ∧ i' = .int .i64 j ∧ J (List.range j) wr ∧ Below n₀ W wr)
    (fun i' _ => s.left i - (intOf i').toNat)
  case atStart => exact ⟨0, Nat.zero_le _, rfl, h0, Below.refl _ _⟩
  case round =>
    obtain ⟨j, hj, rfl, hJs, hnx⟩ := hrel
    clear h0 k1 k2
    by_cases hlt : j < s.left i
    · have hrow' := hrow.resolve_left (fun h => by have := h.2; unfold Sh.left at hlt; omega)
      obtain ⟨g, off, cur, rfl, hg, hfit, hx⟩ := hrow'
      have hgL := hg.lt
      have hg1 : Blk wr g 61 cur := (hg.below hBW hgL).below hnx (by omega)
      have hgr := hg1.lt
      have r1 := hg1.rowOf
      have r2 := hg1.plain
      have hdl : s.did i + j < s.l.length := by unfold Sh.left at hlt; omega
      have hrq : s.rq i j = s.l[s.did i + j] := by unfold Sh.rq; rw [List.getElem?_eq_getElem hdl]; rfl
      have hfit3 : off + j * 3 + 3 ≤ cur.size := by omega
      have hext : cur.extract (off + j * 3) (off + j * 3 + 3) = (askC (s.gn i j) (s.rq i j)).toArray := by
        refine extract3 hfit3 (fun u hu => ?_)
        have h3 := hx _ _ (List.getElem?_eq_getElem hdl) (Nat.le_add_right _ _) u hu
        rw [show s.did i + j - s.did i = j by omega] at h3
        rw [h3, hrq]
        rfl
      obtain ⟨fn, tmps, assign, body, hy, hR⟩ := hY _ j (wr.alloc (.cells (askC (s.gn i j) (s.rq i j)).toArray 61)) (hA _ _ _ hJs) (by rw [List.length_range]; exact hlt)
      have HX := Lib.hid hx
      have HH := Lib.hid hg
      have HG1 := Lib.hid hg1
      have HRQ := Lib.hid hrq
      clear hx hg hg1 hrq hfit hrow
      have henc : s.enc i j = #[.int .i64 (s.gn i j : Int), .agg (s.rq i j).cells.toArray] := rfl
      rw [henc] at hy
      clear henc
      have hup := Lib.hid (show List.range (j + 1) = List.range j ++ [j] from List.range_succ)
      gi_wp2_with fail
      refine hR.mono ?_
      have hal : Below n₀ wr (wr.alloc (.cells (askC (s.gn i j) (s.rq i j)).toArray 61)) := (Below.refl _ wr).alloc (Nat.le_trans hW hnx.size) _
      rintro e W3 (⟨rfl, hJ3, hk3⟩ | ⟨rfl, hJx3⟩)
      · gi_wp2
        go_roundw
        case rel => exact ⟨j + 1, by omega, by go_num, by rw [hup.out]; exact hJ3, (hnx.trans hal).trans hk3⟩
        case measure => simp [intOf]; omega
      · gi_wp2
        refine bodyPost_ret (results_none rfl _ _ _) rfl ?_
        exact ⟨⟨_, rfl⟩, .inr ⟨_, ⟨j + 1, by omega, hup.out.symm⟩, hJx3⟩⟩
    · obtain rfl : j = s.left i := by omega
      gi_wp2_with fail
      go_end0
      exact ⟨⟨_, rfl⟩, .inl ⟨_, rfl, hJs⟩⟩

theorem abides_alloc {β : Type} {B : Nat} {J : β → World → Prop} (h : AbidesFrom B J) (s : β) (W : World) (o : Obj) (hs : J s W) : J s (W.alloc o) :=
  h s W (W.alloc o) none hs ⟨rfl, rfl, rfl, by simp, fun k hk _ => Below.heap_alloc W o k hk⟩ (fun r e => by cases e)
theorem queue1_stops (n B1 B2 n₀ b e : Nat) (s : Sh) (i : Int) (wL w0 : World) (hlen : s.l.length < 9223372036854775807) (hn₀ : wL.heap.size ≤ n₀) (hn1 : n₀ ≤ w0.heap.size) (hB : Below wL.heap.size wL w0)
    (hb1 : Blk w0 B1 23 #[.pointer (some ⟨b, 0, none⟩)]) (hb2 : Blk w0 B2 3 #[.int .i64 i]) (hL : ShAt wL b e s) :
    SeqStopsK Fence.wide n Try.prog 24 #[.pointer (some ⟨B1, 0, none⟩), .pointer (some ⟨B2, 0, none⟩)] (s.enc i) (Below n₀)
      (fun ys => ys = List.range (s.left i)) (fun pre => ∃ k, k ≤ s.left i ∧ pre = List.range k) (s.left i) w0 := fun l J Jx W hW hJ _ hY h0 =>
  queue1_in n l B1 B2 n₀ b e s i wL hlen hn₀ hL J Jx W (hB.trans (hW.mono hB.size)) hY (fun pre W o h => abides_alloc hJ pre W o h) (Nat.le_trans hn1 hW.size) (hb1.below hW hb1.lt) (hb2.below hW hb2.lt) h0
end Go.Proofs.Ytfekllnalacggaa
