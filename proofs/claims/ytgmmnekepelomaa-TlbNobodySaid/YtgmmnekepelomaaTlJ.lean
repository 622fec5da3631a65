/- Tlb: the reference's Drop. -/
import Derived.Test.YtgmmnekepelomaaTlI
namespace Go.Proofs.Ytgmmnekepelomaa
open Go.RowKit
attribute [local go_sem ↓] ld30 st30
attribute [local go_sem] run_ld30 run_st30 tr_ones tr_size tr_take tr_extract tr_put tr_put' tr_len

theorem bs38 (n : Nat) (ps : Array (Nat × Value)) : Instr.buildSlice 38 n ps = bsl 38 n ps := rfl
theorem run_bs38 (w : World) (vs : Array Value) (hs : vs.size = 4) : (bsl 38 1 #[(0, .agg vs)]).run Try.prog w = .ok (.slice (some ⟨w.heap.size, 0, none⟩) 1 1) (w.alloc (.cells vs 30)) := by
  obtain ⟨i0, hi0, hz0, hz1, hz2⟩ := info_parts info30
  exact run_buildSlice_one w 38 30 vs i0 _ Try.underlying38 hi0 hz0 (by rw [hs, hz1]) (by omega) (by omega)
attribute [local go_sem ↓] bs38
attribute [local go_sem] run_bs38

theorem ones_mem (x : Tr) : ∀ v ∈ x.cells, v.oneCell' = true := by
  intro v h
  simp only [Tr.cells, List.mem_cons, List.not_mem_nil, or_false] at h
  rcases h with rfl | rfl | rfl | rfl <;> rfl
theorem news_blk {W : World} {g : Nat} {x : Tr} (h : Blk W g 30 x.cells.toArray) : ∀ j u, x.cells[j]? = some u → W.cell? ((⟨g, 0, none⟩ : Addr).add j) = some u := fun j u hj => by
  rw [add_zero_off, h.cell]
  simpa using hj

/-- Those of the first k that stay. -/
def Tl.left (s : Tl) (a b : Int) (k : Nat) : List Tr := (s.l.take k).filter fun x => !x.meets a b
theorem left_succ (s : Tl) (a b : Int) (k : Nat) (h : k < s.l.length) : s.left a b (k + 1) = s.left a b k ++ (if s.l[k].meets a b then [] else [s.l[k]]) := by
  unfold Tl.left
  rw [take_snoc s.l k h, List.filter_append]
  congr 1
  cases hq : s.l[k].meets a b
  · rw [List.filter_cons_of_pos (by simpa using hq)]; rfl
  · rw [List.filter_cons_of_neg (by simpa using hq)]; rfl
theorem left_le (s : Tl) (a b : Int) (k : Nat) : (s.left a b k).length ≤ k := by
  unfold Tl.left
  refine Nat.le_trans (List.length_filter_le _ _) ?_
  simp; omega
theorem drop_ok {s : Tl} (ok : s.ok) (a b : Int) : (s.drop a b).ok :=
  ⟨ok.s1, ok.s2, Nat.le_trans (List.length_filter_le _ _) ok.n, fun x hx => ok.m x (List.mem_filter.1 hx).1⟩

set_option maxRecDepth 100000 in
set_option maxHeartbeats 4000000 in
theorem rDrop_st (w : World) (base b : Nat) (v : Value) (s : Tl) (f t : Int) (h : RefAt w base b v s) (hbase : base ≤ w.heap.size) :
    Calls Try.prog 23 #[.pointer (some ⟨b, 0, none⟩), .int .i64 f, .int .i64 t] w fun r w' => r = .returned (.int .i64 ((s.l.length : Int) - (s.drop f t).l.length)) ∧
      ∃ v', RefAt w' base b v' (s.drop f t) ∧ Only (· = b) w w' := by
  obtain ⟨i0, hi0, hz0, hz1, hz2⟩ := info_parts info30
  have hb := h.hb.lt
  have h64 : s.l.length ≤ 64 := Nat.le_trans h.ok.n h.ok.s2
  obtain ⟨va, vc, rfl⟩ := own_form h.hv
  have HH := Lib.hid h
  clear h
  go_enter Try.func23, Try.ntmps23
  go_wp2_with fail
  go_loopw [7, 8] (fun l i wr => ∃ k : Nat, k ≤ s.l.length ∧ i = .int .i64 k ∧ wr.ownsRow w.heap.size 30 4 l (s.left f t k).length (flat (s.left f t k)) ∧ Below w.heap.size w wr)
    (fun _ i _ => s.l.length - (intOf i).toNat)
  case atStart => exact ⟨0, Nat.zero_le _, rfl, World.ownsRow_nil _ _ _ _, Below.refl _ _⟩
  case round =>
    obtain ⟨k, hk, rfl, hown, hB⟩ := hrel
    have hR := HH.out.below hB
    have k1 : wr.cell? ⟨b, 1, none⟩ = some (.slice va s.l.length vc) := hR.hb.cell 1
    have hll := left_le s f t k
    obtain ⟨la, lc, rfl⟩ := own_form hown
    by_cases hlt : k < s.l.length
    · obtain ⟨g, cap, cur, hv, hg, hext, hfit, hcell, hbg⟩ := own_row hR.hv hlt
      injection hv with hv1 _ hv2
      subst hv1
      have hm := HH.out.ok.m _ (List.getElem_mem hlt)
      have hls := left_succ s f t k hlt
      obtain ⟨y, hy⟩ : ∃ y, s.l[k] = y := ⟨_, rfl⟩
      rw [hy] at hm hext hls
      have r1 := hg.rowOf
      have r2 := hg.plain
      have hk0 : (0 : Int) ≤ (k : Int) := Int.natCast_nonneg _
      have hk1 : (k : Int) < (s.l.length : Int) := by omega
      have HG := Lib.hid hg
      have HR := Lib.hid hR
      have HO := Lib.hid hown
      have lg := hg.lt
      obtain ⟨me, hme⟩ : ∃ me, y.meets f t = me := ⟨_, rfl⟩
      have hcall : ∀ W, Calls Try.prog 32 #[y.val, .int .i64 f, .int .i64 t] W fun r w' => r = .returned (.bool me) ∧ Below W.heap.size W w' := fun W => by rw [← hme]; exact rMeets_f y f t W hm
      rw [hme] at hls
      have HC := Lib.hid hcall
      clear hR hv2 hm hy hg hcell hown hme hcall
      cases me
      · rw [if_neg Bool.false_ne_true] at hls
        have HLS := Lib.hid hls
        obtain ⟨nn, hnn⟩ : ∃ nn, (s.left f t k).length = nn := ⟨_, rfl⟩
        rw [hnn] at hll HO ⊢
        have HNN := Lib.hid hnn
        clear hls hnn
        go_wp2_with (first
          | (go_at_call 32; refine (HC.out _).mono ?_; rintro r w5 ⟨rfl, B5⟩; have e1 : w5.cell? ⟨b, 1, none⟩ = some (.slice (some ⟨g, 0, none⟩) s.l.length vc) := (HR.out.hb.below B5 HR.out.hb.lt).cell 1; have e2 := (HG.out.below B5 lg).rowOf; have e3 := (HG.out.below B5 lg).plain)
          | (at_builtin; refine wpList_append_own _ rfl _ _ 38 rfl w.heap.size 30 i0 _ 4 32 Try.underlying38 hi0 hz0 hz1 hz2 rfl (by decide) (.slice la nn lc) nn _ rfl ((own_below HO.out B5).alloc _) ⟨w5.heap.size, 0, none⟩ 1 1 y.cells rfl rfl (news_blk (Blk.new _ _ _)) (ones_mem y) (by simp only [maxLen]; omega) (by omega) (by simp; have := (hB.trans (B5.mono hB.size)).size; omega) ?_; intro v' w1 hown' hgrow _))
        go_roundw
        case rel =>
          have hB5 := hB.trans (B5.mono hB.size)
          refine ⟨k + 1, by omega, by go_num, ?_, (hB5.alloc hB5.size _).grown hgrow (by simp; have := hB5.size; omega) (fun j hj => ?_)⟩
          · rw [HLS.out, flat_append, flat_one, List.length_append, HNN.out]
            exact hown'
          · rcases HO.out.2 with ⟨e, _⟩ | ⟨g', c', cur', e, hge, _⟩
            · injection e with e1
              subst e1
              cases hj
            · injection e with e1
              subst e1
              have : g' = j := by simpa [Value.ownBlock] using hj
              omega
        case measure => simp [intOf]; omega
      · rw [if_pos rfl, List.append_nil] at hls
        have HLS := Lib.hid hls
        clear hls
        go_wp2_with (go_at_call 32; refine (HC.out _).mono ?_; rintro r w5 ⟨rfl, B5⟩)
        go_roundw
        case rel => exact ⟨k + 1, by omega, by go_num, by rw [HLS.out]; exact own_below HO.out B5, hB.trans (B5.mono hB.size)⟩
        case measure => simp [intOf]; omega
    · obtain rfl : k = s.l.length := by omega
      have hle : s.left f t s.l.length = (s.drop f t).l := by unfold Tl.left Tl.drop; rw [List.take_length]
      rw [hle] at hll hown ⊢
      have k2 : wr.frozen? ⟨b, 1, none⟩ = false := hR.hb.frozen 1
      obtain ⟨nn, hnn⟩ : ∃ nn, (s.drop f t).l.length = nn := ⟨_, rfl⟩
      rw [hnn] at hll hown ⊢
      have HR := Lib.hid hR
      have HO := Lib.hid hown
      have HNN := Lib.hid hnn
      clear hR hown hle hnn
      go_wp2_with fail
      go_ret
      have ho : Only (· = b) wr (wr.setCell ⟨b, 1, none⟩ (.slice la nn lc)) := (Only.refl (· = b) wr).setCell (p := ⟨b, 1, none⟩) (.inl rfl) _
      refine ⟨by rw [HNN.out]; rfl, _, ⟨drop_ok HH.out.ok f t, HR.out.hb.set_ 1 _, ?_⟩, (Only.of_below hB).trans ho⟩
      rw [HNN.out]
      refine own_only (own_lo HO.out hbase) ho (fun j hj e => ?_)
      have := HO.out.2
      rcases this with ⟨e', _⟩ | ⟨g', c', cur', e', hge, _⟩
      · injection e' with e1
        subst e1
        cases hj
      · injection e' with e1
        subst e1
        have : g' = j := by simpa [Value.ownBlock] using hj
        omega
end Go.Proofs.Ytgmmnekepelomaa
