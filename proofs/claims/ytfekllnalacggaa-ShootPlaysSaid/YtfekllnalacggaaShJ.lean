/- Shoot: Pending. -/
import Derived.Test.YtfekllnalacggaaShI
import Derived.Test.YtfekllnalacggaaMkL
namespace Go.Proofs.Ytfekllnalacggaa
open Go.RowKit Go.Shelf
attribute [local go_sem] Oper.semAt_some
attribute [local go_sem ↓] ld35 st35 ld61 st61
attribute [local go_sem] run_ld35 run_st35 run_ld61 run_st61
attribute [local go_sem] ask_g0 ask_tail ask_ones' ask_size ask_len ask_put ask_0 ask_ext ask_ext' ask_take req_ones req_size req_take req_extract putAt2 req_len req_0 req_1

/-- How many of those that were told are of generation g. -/
def Sh.hits (s : Sh) (i : Int) (g : Int) (pre : List Nat) : Nat := pre.countP fun j => ((s.gn i j : Nat) : Int) == g
theorem Sh.hits_snoc (s : Sh) (i g : Int) (pre : List Nat) (x : Nat) : s.hits i g (pre ++ [x]) = s.hits i g pre + (if ((s.gn i x : Nat) : Int) == g then 1 else 0) := by
  unfold Sh.hits
  rw [List.countP_append, List.countP_singleton]
theorem Sh.hits_le (s : Sh) (i g : Int) (pre : List Nat) : s.hits i g pre ≤ pre.length := List.countP_le_length
theorem hits_range (k : Nat) (g : Int) : ∀ n, (List.range n).countP (fun j => ((k + j + 1 : Nat) : Int) == g) = if (k : Int) < g ∧ g ≤ k + n then 1 else 0
  | 0 => by
    rw [if_neg (by omega)]; rfl
  | n + 1 => by
    rw [List.range_succ, List.countP_append, hits_range k g n, List.countP_singleton]
    by_cases h1 : ((k + n + 1 : Nat) : Int) = g
    · have h1' : (((k + n + 1 : Nat) : Int) == g) = true := by simpa using h1
      rw [if_neg (by omega), h1', if_pos rfl, if_pos (by omega)]
    · have h1' : (((k + n + 1 : Nat) : Int) == g) = false := by simpa using h1
      rw [h1']
      by_cases h2 : (k : Int) < g ∧ g ≤ k + n
      · rw [if_pos h2, if_neg Bool.false_ne_true, if_pos (by omega)]
      · rw [if_neg h2, if_neg Bool.false_ne_true, if_neg (by omega)]
theorem Sh.hits_all (s : Sh) (ok : s.ok) (c : Nat) (g : Int) (hc : c < s.d.length) : s.hits c g (List.range (s.left c)) = if s.open_ g s.d[c] then 1 else 0 := by
  have hk := ok.hd _ (List.getElem_mem hc)
  have h1 := hits_range s.d[c] g (s.l.length - s.d[c])
  unfold Sh.hits Sh.gn Sh.left
  rw [Sh.did_in hc, h1]
  unfold Sh.open_
  by_cases h : (s.d[c] : Int) < g ∧ g ≤ s.d[c] + (s.l.length - s.d[c] : Nat)
  · rw [if_pos h]
    simp only [Bool.and_eq_true, decide_eq_true_eq]
    rw [if_pos ⟨⟨by omega, by omega⟩, by omega⟩]
  · rw [if_neg h]
    simp only [Bool.and_eq_true, decide_eq_true_eq]
    rw [if_neg (by omega)]

theorem pending_nil (w : World) (g : Int) : Calls Try.prog 11 #[.pointer none, .int .i64 g] w fun r w' => r = .returned (.int .i64 0) ∧ Below w.heap.size w w' := by
  go_enter Try.func11, Try.ntmps11
  go_wp2
  go_ret
  exact ⟨rfl, ((Below.refl _ w).alloc (Nat.le_refl _) _).alloc (by simp) _⟩

/-- Between two cores. -/
def pdI (w : World) (b : Nat) (s : Sh) (g : Int) (m : Nat) (a : Act) (W : World) : Prop :=
  ∃ (c : Nat) (Ds : List Nat) (u : Nat → Value), c + m = s.d.length ∧ a = { tmps := #[.pointer (some ⟨b, 0, none⟩), u 1, u 2, .pointer (some ⟨w.heap.size, 0, none⟩), u 4, .pointer (some ⟨w.heap.size + 1, 0, none⟩), u 6, u 7, u 8, u 9, u 10, u 11, u 12, u 13,
    .int .i64 s.d.length, .int .i64 c, u 16, u 17, u 18, u 19, u 20, u 21, u 22, u 23, u 24, u 25, u 26, u 27, u 28, u 29], defers := marks Ds } ∧ Marked W (w.heap.size + 2) Ds ∧
    Blk W w.heap.size 3 #[.int .i64 g] ∧ Blk W (w.heap.size + 1) 3 #[.int .i64 (s.pend g c : Int)] ∧ Below w.heap.size w W
theorem pdI_mk {w W : World} {b c m : Nat} {s : Sh} {g : Int} {Ds : List Nat} {x1 x2 x4 x6 x7 x8 x9 x10 x11 x12 x13 x16 x17 x18 x19 x20 x21 x22 x23 x24 x25 x26 x27 x28 x29 : Value} (hcm : c + m = s.d.length) (hM : Marked W (w.heap.size + 2) Ds)
    (d1 : Blk W w.heap.size 3 #[.int .i64 g]) (d2 : Blk W (w.heap.size + 1) 3 #[.int .i64 (s.pend g c : Int)]) (hB : Below w.heap.size w W) :
    pdI w b s g m { tmps := #[.pointer (some ⟨b, 0, none⟩), x1, x2, .pointer (some ⟨w.heap.size, 0, none⟩), x4, .pointer (some ⟨w.heap.size + 1, 0, none⟩), x6, x7, x8, x9, x10, x11, x12, x13,
    .int .i64 s.d.length, .int .i64 c, x16, x17, x18, x19, x20, x21, x22, x23, x24, x25, x26, x27, x28, x29], defers := marks Ds } W :=
  ⟨c, Ds, fun k => (#[undef, x1, x2, undef, x4, undef, x6, x7, x8, x9, x10, x11, x12, x13, undef, undef, x16, x17, x18, x19, x20, x21, x22, x23, x24, x25, x26, x27, x28, x29] : Array Value).getD k undef, hcm, rfl, hM, d1, d2, hB⟩
/-- Between two requests of a core. -/
def pdJ (w : World) (s : Sh) (g : Int) (c : Nat) (Ds : List Nat) (pre : List Nat) (W : World) : Prop :=
  (Blk W w.heap.size 3 #[.int .i64 g] ∧ Blk W (w.heap.size + 1) 3 #[.int .i64 ((s.pend g c + s.hits c g pre : Nat) : Int)]) ∧ Below w.heap.size w W ∧ Marked W (w.heap.size + 2) Ds
def pdX (_ : Code) (_ : List Nat) (_ : World) : Prop := False

set_option maxRecDepth 100000 in
set_option maxHeartbeats 4000000 in
theorem pending_in (w : World) (b e : Nat) (s : Sh) (g : Int) (h : ShAt w b e s) (hlen : s.l.length * 16 ≤ 140737488355328) :
    CallsIn Fence.wide 9 Try.prog 11 #[.pointer (some ⟨b, 0, none⟩), .int .i64 g] w fun r w' => r = .returned (.int .i64 (s.pend g s.d.length)) ∧ Below w.heap.size w w' := by
  have hb := h.hb.lt
  have h64 := h.ok.c2
  have c0 : w.cell? ⟨b, 0, none⟩ = some (.slice (some ⟨e, 0, none⟩) s.d.length s.d.length) := h.hb.cell 0
  have HH := Lib.hid h; clear h
  refine callsIn_of_wp_marks Try.func11 rfl trivial ?_ rfl
  simp only [Try.ntmps11, List.size_toArray, List.length_cons, List.length_nil, Nat.reduceAdd, Nat.reduceSub, Array.replicate_succ, Array.replicate_zero, List.push_toArray, List.append_toArray, List.nil_append, List.cons_append]
  gi_wp2_with fail
  obtain ⟨W0, hW0⟩ : ∃ W0, (w.alloc (.cells #[.int .i64 g] 3)).alloc (.cells #[.int .i64 0] 3) = W0 := ⟨_, rfl⟩
  have hsz : W0.heap.size = w.heap.size + 2 := by rw [← hW0]; simp
  have b1 : Blk W0 w.heap.size 3 #[.int .i64 g] := by rw [← hW0]; exact (Blk.new' _ _ (by simp)).alloc _
  have b2 : Blk W0 (w.heap.size + 1) 3 #[.int .i64 ((s.pend g 0 : Nat) : Int)] := by rw [← hW0]; exact Blk.new' _ _ (by simp)
  have hB0 : Below w.heap.size w W0 := by rw [← hW0]; exact ((Below.refl _ w).alloc (Nat.le_refl _) _).alloc (by simp) _
  rw [hW0]
  clear hW0 c0
  refine wpIn_loop_ghost (pdI w b s g) s.d.length ⟨0, [], fun k => (#[.pointer (some ⟨b, 0, none⟩), .int .i64 g, undef, .pointer (some ⟨w.heap.size, 0, none⟩), .int .i64 0, .pointer (some ⟨w.heap.size + 1, 0, none⟩), undef, undef, .pointer (some ⟨b, 0, none⟩), .bool false, .pointer (some ⟨b, 0, none⟩), .pointer (some ⟨b, 0, none⟩), .pointer (some ⟨b, 0, none⟩), .slice (some ⟨e, 0, none⟩) s.d.length s.d.length] : Array Value).getD k undef, by omega, rfl, Marked.nil _ _, b1, b2, hB0⟩ ?_
  rintro m a W ⟨c, Ds, u, hcm, rfl, hM, d1, d2, hB⟩
  clear b1 b2 hB0
  by_cases hlt : c < s.d.length
  · gi_wp2_with (gi_at_call 16; refine (callsIn_wide.2 (queue_any _ _ _)).mono ?_; rintro r w' ⟨rfl, rfl⟩)
    obtain ⟨W1, hW1⟩ : ∃ W1, (W.alloc (.cells #[.pointer (some ⟨b, 0, none⟩)] 23)).alloc (.cells #[.int .i64 (c : Int)] 3) = W1 := ⟨_, rfl⟩
    have hsz1 : W1.heap.size = W.heap.size + 2 := by rw [← hW1]; simp
    have B1 : Below W.heap.size W W1 := by rw [← hW1]; exact ((Below.refl _ W).alloc (Nat.le_refl _) _).alloc (by simp) _
    have q1 : Blk W1 W.heap.size 23 #[.pointer (some ⟨b, 0, none⟩)] := by rw [← hW1]; exact (Blk.new' _ _ (by simp)).alloc _
    have q2 : Blk W1 (W.heap.size + 1) 3 #[.int .i64 (c : Int)] := by rw [← hW1]; exact Blk.new' _ _ (by simp)
    have e1 := d1.below B1 d1.lt
    have e2 := d2.below B1 d2.lt
    have eM := hM.below B1
    have eB := hB.trans (B1.mono hB.size)
    have hwW := hB.size
    have hcl := d2.lt
    rw [hW1]
    clear hW1 d1 d2 hB B1
    refine rangeW (by omega) (gf := 24) (lb := #[.pointer (some ⟨W.heap.size, 0, none⟩), .pointer (some ⟨W.heap.size + 1, 0, none⟩)]) rfl (enters_of Try.func24 (by kernel_rfl) rfl)
      (n₀ := w.heap.size) (by omega) (queue1_stops 8 W.heap.size (W.heap.size + 1) w.heap.size b e s c w W1 (by omega) (Nat.le_refl _) (by omega) eB q1 q2 HH.out) (fun _ => rfl)
      (pdJ w s g c Ds) pdX
      (fun t A B row hs hg hr => ⟨⟨blk_kept hs.1.1 hg hr, blk_kept hs.1.2 hg hr⟩, own_blw (by omega) hs.2.1 (Nat.le_refl _) hg hr, hs.2.2.grown (C := W1.heap.size) (fun D hD => by have := hM.lt hD; omega) hg hr⟩)
      (fun c t A B row hs _ _ => hs)
      ⟨⟨e1, e2⟩, eB, eM⟩
      (fun T x a' W => a' = { tmps := (((T.setIfInBounds 21 (.int .i64 (s.gn c x : Int))).setIfInBounds 22 (.agg (s.rq c x).cells.toArray)).setIfInBounds 7 (.int .i64 (s.gn c x : Int))), defers := [] })
      (fun T x a' t A B row hs hg hr => hs) ?assign ?body ?done ?stop
    case assign =>
      rintro l pre x W2 K hz ⟨⟨d1, d2⟩, hB, hMM⟩ hK
      gi_wp2
      exact hK _ _ ((KeepsOthers.refl W2).from _) (Below.refl _ W2) ⟨⟨d1, d2⟩, hB, hMM⟩ rfl
    case stop =>
      intro D c pre W _ _ _ h
      exact h.elim
    case body =>
      rintro l pre x a' W2 hz ⟨⟨d1, d2⟩, hB, hMM⟩ rfl hlt2
      simp only [List.setIfInBounds_toArray, List.set_cons_zero, List.set_cons_succ]
      have k1 : W2.cell? ⟨w.heap.size, 0, none⟩ = some (.int .i64 g) := d1.cell 0
      have hh := s.hits_snoc c g pre x
      have hhl := s.hits_le c g pre
      have hpl := s.pend_le g c
      have hll : pre.length < s.l.length := Nat.lt_of_lt_of_le hlt2 (by unfold Sh.left; omega)
      obtain ⟨N, hN⟩ : ∃ N, N = s.pend g c + s.hits c g pre := ⟨_, rfl⟩
      have k2 : W2.cell? ⟨w.heap.size + 1, 0, none⟩ = some (.int .i64 (N : Int)) := by rw [hN]; exact d2.cell 0
      have k3 : W2.frozen? ⟨w.heap.size + 1, 0, none⟩ = false := d2.frozen 0
      have hNb : N ≤ 1000000000000000 := by omega
      have D1 := Lib.hid d1
      have D2 := Lib.hid d2
      have HN := Lib.hid hN
      clear d1 d2 e1 e2 q1 q2 hN
      by_cases hx : ((s.gn c x : Nat) : Int) = g
      · have hxb : (((s.gn c x : Nat) : Int) == g) = true := by simpa using hx
        rw [hxb, if_pos rfl] at hh
        have HHH := Lib.hid hh
        have HXX := Lib.hid hx
        clear hx hh
        gi_wp2
        have hK := KeepsOthers.setCell W2 ⟨w.heap.size + 1, 0, none⟩ (.int .i64 ((N : Int) + 1))
        refine ⟨hK.from _, (Below.refl _ W2).setCell (p := ⟨w.heap.size + 1, 0, none⟩) (by simp) _, ⟨D1.out.far (by simp) _, ?_⟩, hB.setCell (p := ⟨w.heap.size + 1, 0, none⟩) (by simp) _, hMM.keeps hK⟩
        rw [HHH.out, ← Nat.add_assoc, ← HN.out]
        exact D2.out.set_ 0 _
      · have hxb : (((s.gn c x : Nat) : Int) == g) = false := by simpa using hx
        rw [hxb, if_neg Bool.false_ne_true, Nat.add_zero] at hh
        have HHH := Lib.hid hh
        have HXX := Lib.hid hx
        clear hx hh
        gi_wp2
        exact ⟨(KeepsOthers.refl _).from _, Below.refl _ _, ⟨D1.out, by rw [HHH.out]; exact D2.out⟩, hB, hMM⟩
    case done =>
      rintro D ys W2 hD hz rfl ⟨⟨d1, d2⟩, hB, hMM⟩ hK
      rw [Sh.hits_all s HH.out.ok c g hlt, ← Sh.pend_succ s g c hlt] at d2
      clear e1 e2 q1 q2
      gi_wp2
      exact ⟨m - 1, by omega, pdI_mk (c := c + 1) (Ds := D :: Ds) (by omega) (hMM.cons (by omega) hK (fun E hE => by have := hM.lt hE; omega)) d1 d2 hB⟩
  · have hce : c = s.d.length := by omega
    rw [hce] at d2
    have k2 : W.cell? ⟨w.heap.size + 1, 0, none⟩ = some (.int .i64 (s.pend g s.d.length : Int)) := d2.cell 0
    clear d1
    gi_wp2
    refine leaves_marks _ (by simp) _ _ _ hM (fun w' hw' => ?_)
    exact ⟨_, results_tmp rfl _ _ _, rfl, below_past (hB.mono (Nat.le_refl _)) ⟨hM.nd, fun D hD => ⟨by have := (hM.at_ D hD).1; omega, (hM.at_ D hD).2⟩⟩ hw' hB.size⟩
theorem pending_sh (w : World) (b e : Nat) (s : Sh) (g : Int) (h : ShAt w b e s) (hlen : s.l.length * 16 ≤ 140737488355328) :
    Calls Try.prog 11 #[.pointer (some ⟨b, 0, none⟩), .int .i64 g] w fun r w' => r = .returned (.int .i64 (s.pend g s.d.length)) ∧ Below w.heap.size w w' := callsIn_wide.1 (pending_in w b e s g h hlen)
end Go.Proofs.Ytfekllnalacggaa
