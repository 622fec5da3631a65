/- Tlb: acts that came in; the law Finds, walked. -/
import Derived.Test.YtgmmnekepelomaaTlQ
import Derived.Deep.RegionHeld3
import Derived.IntWalk
namespace Go.Proofs.Ytgmmnekepelomaa
open Go.RowKit
attribute [local go_sem ↓] ld30 st30 bs38
attribute [local go_sem] run_ld30 run_st30 tr_ones tr_size tr_take tr_extract tr_put tr_put' tr_len run_bs38
attribute [local go_sem high] eql30 neq30
theorem ld32 (v : Value) : Instr.loadAt 32 v = ldAgg 32 v := rfl
attribute [local go_sem ↓] ld32

/-- A slice of acts that came in. -/
def ActsAt (w : World) (A : Option Addr) (l : List TAct) : Prop :=
  l.length * 56 ≤ 140737488351232 ∧ (0 < l.length → ∃ b off, A = some ⟨b, off, none⟩ ∧ b < w.heap.size ∧ ∀ i a, l[i]? = some a → ∀ j v, a.cells[j]? = some v → w.cell? ⟨b, off + i * 7 + j, none⟩ = some v)
theorem ActsAt.load {w W : World} {A : Option Addr} {l : List TAct} (h : ActsAt w A l) (hb : Below w.heap.size w W) {i : Nat} {a : TAct} (hi : l[i]? = some a) :
    ∃ b off, A = some ⟨b, off, none⟩ ∧ ∀ n, (ldAgg 32 (.pointer (some ⟨b, off + i * 7, none⟩))).run Try.prog (W.drewN n) = .ok a.val (W.drewN n) := by
  have hlt : i < l.length := (List.getElem?_eq_some_iff.1 hi).1
  obtain ⟨b, off, rfl, hbb, hc⟩ := h.2 (by omega)
  refine ⟨b, off, rfl, fun n => ?_⟩
  have hl : (loadCells ⟨b, off + i * 7, none⟩ a.cells.toList.length).run Try.prog (W.drewN n) = .ok a.cells.toList.toArray (W.drewN n) :=
    run_loadCells_list (P := Try.prog) (W.drewN n) ⟨b, off + i * 7, none⟩ _ (fun j v hv => by
      rw [add_off]
      exact (hb.cell (p := ⟨b, off + i * 7 + j, none⟩) hbb).trans (hc i a hi j v (by simpa using hv)))
  have hagg := run_isAgg (P := Try.prog) Try.underlying32 rfl (W.drewN n)
  obtain ⟨i0, hi0, hs⟩ : ∃ i, Try.prog.info? 32 = some i ∧ i.size = 7 := ⟨_, rfl, by kernel_rfl⟩
  have hsz : a.cells.toList.length = 7 := rfl
  rw [hsz, Array.toArray_toList] at hl
  simp only [ldAgg, Instr.loadAt, Instr.sureAddr, Sem.run_bind, Sem.run_pure, Result.andThen_ok]
  simp [loadVar, Sem.run_bind, hagg, sizeOf, typeInfo, hi0, hs, hl]

def Tl.run (s : Tl) (l : List TAct) : Tl := l.foldl Tl.step s
theorem run_snoc (s : Tl) (l : List TAct) (a : TAct) : s.run (l ++ [a]) = (s.run l).step a := by simp [Tl.run]
theorem step_size (s : Tl) (a : TAct) : (s.step a).size = s.size := by
  unfold Tl.step Tl.fill Tl.dropAt
  split
  · split <;> rfl
  · split
    · rfl
    · split
      · split <;> rfl
      · rfl
theorem run_size (s : Tl) (l : List TAct) : (s.run l).size = s.size := by
  induction l generalizing s with
  | nil => rfl
  | cons a l ih => exact (ih (s.step a)).trans (step_size s a)
theorem run_dis {s : Tl} (h : s.dis) (l : List TAct) : (s.run l).dis := by
  induction l generalizing s with
  | nil => exact h
  | cons a l ih => exact ih (dis_step h a)
theorem snoc_take {α : Type} (l : List α) (k : Nat) (h : k < l.length) : l.take (k + 1) = l.take k ++ [l[k]] := by
  rw [List.take_succ_eq_append_getElem h]

theorem finds_no (w : World) (n : Int) (A : Option Addr) (len cap : Nat) (h : n < 1 ∨ 64 < n) :
    Calls Try.prog 4 #[.int .i64 n, .slice A len cap] w fun r w' => r = .returned (.bool true) ∧ Below w.heap.size w w' := by
  have H := Lib.hid h; clear h
  go_enter Try.func4, Try.ntmps4
  go_wp2_with (go_at_call 7; refine (made_no _ _ H.out).mono ?_; rintro r w1 ⟨rfl, rfl⟩)
  refine wp_loop_rounds 1 ?_
  rw [rounds_succ]
  go_wp2_with (go_at_call 10; refine (awake_any _).mono ?_; rintro r w1 ⟨rfl, B1⟩)
  all_goals
    go_ret
    exact ⟨rfl, B1⟩

theorem findV_form (o : Option Tr) : ∃ y, findV o = .tuple #[Tr.val y, .bool o.isSome] := by
  cases o with
  | none => exact ⟨_, rfl⟩
  | some x => exact ⟨_, rfl⟩

set_option maxRecDepth 100000 in
set_option maxHeartbeats 8000000 in
theorem finds_yes (w : World) (n : Nat) (A : Option Addr) (cap : Nat) (l : List TAct) (h1 : 1 ≤ n) (h2 : n ≤ 64) (ha : ActsAt w A l) :
    Calls Try.prog 4 #[.int .i64 n, .slice A l.length cap] w fun r w' => r = .returned (.bool true) ∧ Below w.heap.size w w' := by
  have hl : l.length ≤ 4398046510976 := by have := ha.1; omega
  have HA := Lib.hid ha; clear ha
  go_enter Try.func4, Try.ntmps4
  go_wp2_with (go_at_call 7; refine (made_yes _ n h1 h2).mono ?_; rintro r w1 ⟨b, br, base, rfl, S1, B1⟩)
  go_loopw [7, 9] (fun f i wr => ∃ k : Nat, k ≤ l.length ∧ f = .bool true ∧ i = .int .i64 k ∧ St wr w.heap.size base b br ((Tl.made n).run (l.take k)) ∧ Below w.heap.size w wr)
    (fun _ i _ => l.length - (intOf i).toNat)
  case atStart => exact ⟨0, Nat.zero_le _, rfl, rfl, S1, B1⟩
  case round =>
    obtain ⟨k, hk, rfl, rfl, hS, hB⟩ := hrel
    clear S1 B1
    by_cases hlt : k < l.length
    · obtain ⟨bb, off, rfl, hload⟩ := HA.out.load hB (i := k) (List.getElem?_eq_getElem hlt)
      have hld : (ldAgg 32 (.pointer (some ⟨bb, off + k * 7, none⟩))).run Try.prog wr = .ok l[k].val wr := hload 0
      clear hload
      go_wp2_with (go_at_call 9; refine (play_st _ _ _ _ _ _ _ hS).mono ?_; rintro r w3 ⟨rfl, hS', hB'⟩)
      go_roundw
      case rel =>
        refine ⟨k + 1, by omega, rfl, by go_num, ?_, hB.trans hB'⟩
        rw [snoc_take l k hlt, run_snoc]
        exact hS'
      case measure => simp [intOf]; omega
    · have hd : decide (k < l.length) = false := by simpa using hlt
      go_wp2_with fail
      have hsz : ((Tl.made n).run (l.take k)).size = n := run_size _ _
      have hdis : ((Tl.made n).run (l.take k)).dis := run_dis (dis_made n) _
      obtain ⟨s, hs⟩ : ∃ s, (Tl.made n).run (l.take k) = s := ⟨_, rfl⟩
      rw [hs] at hS hsz hdis
      have HSZ := Lib.hid hsz
      have HD := Lib.hid hdis
      have hok := hS.S.ok
      have hlen := hok.n
      have OK := Lib.hid hok
      have htl := total_le s.l (-1)
      have ht0 := total_lo s.l hok.m
      rw [hsz] at hlen
      clear hs hsz hdis hok
      go_loopw [10, 11] (fun nv p wr => ∃ P : Int, -1 ≤ P ∧ P ≤ 4097 ∧ p = .int .i64 P ∧ nv = .int .i64 (total s.l P : Nat) ∧ St wr w.heap.size base b br s ∧ Below w.heap.size w wr)
        (fun _ p _ => (4097 - intOf p).toNat)
      case atStart => exact ⟨-1, by omega, by omega, rfl, by rw [ht0]; rfl, hS, hB⟩
      case round =>
        obtain ⟨P, hP1, hP2, rfl, rfl, hS2, hB2⟩ := hrel
        clear hS hB ht0 htl
        have htl := total_le s.l P
        by_cases hPl : P ≤ 4096
        · have hsucc := total_succ s.l P HD.out
          obtain ⟨o, ho⟩ : ∃ o, s.find P = o := ⟨_, rfl⟩
          have ho' : s.l.find? (·.has P) = o := ho
          rw [ho'] at hsucc
          obtain ⟨y, hy⟩ := findV_form o
          obtain ⟨c, hc⟩ : ∃ c, total s.l P = c := ⟨_, rfl⟩
          obtain ⟨c', hc'⟩ : ∃ c', total s.l (P + 1) = c' := ⟨_, rfl⟩
          rw [hc, hc'] at hsucc
          rw [hc] at htl ⊢
          have HC' := Lib.hid hc'
          have HO := Lib.hid ho
          have HY := Lib.hid hy
          have HS := Lib.hid hsucc
          have HS2 := Lib.hid hS2
          obtain ⟨ok, hok⟩ : ∃ ok, o.isSome = ok := ⟨_, rfl⟩
          have HK := Lib.hid hok
          clear hc hc' ho ho' hy hsucc hS2
          go_wp2_with fail
          refine (find_st _ _ s P HS2.out.S).mono ?_
          rw [HO.out, HY.out, hok]
          rintro r w3 ⟨rfl, B3⟩
          clear hok
          go_wp2_with fail
          obtain ⟨W4, hW4⟩ : ∃ W4, w3.alloc (.cells y.cells.toArray 30) = W4 := ⟨_, rfl⟩
          have B4 : Below wr.heap.size wr W4 := by rw [← hW4]; exact B3.alloc B3.size _
          have y4 : Blk W4 w3.heap.size 30 y.cells.toArray := by rw [← hW4]; exact Blk.new _ _ _
          have l4 : W4.heap.size = w3.heap.size + 1 := by rw [← hW4]; simp
          rw [hW4]
          have hS4 := HS2.out.below B4
          clear hW4
          obtain ⟨v4, hR4⟩ := hS4.R
          refine (rFind_st _ base br v4 s P hR4).mono ?_
          rw [HO.out, HY.out, HK.out]
          rintro r w5 ⟨rfl, B5⟩
          have y5 := y4.below B5 y4.lt
          have z1 := y5.rowOf
          have z2 := y5.plain
          have z3 := y5.lt
          have hS5 := hS4.below B5
          have hB5 : Below w.heap.size w w5 := hB2.trans ((B4.trans (B5.mono B4.size)).mono hB2.size)
          have hSf := hS5.below ((Below.refl w5.heap.size w5).alloc (Nat.le_refl _) (.cells y.cells.toArray 30))
          have hBf := hB5.alloc hB5.size (.cells y.cells.toArray 30)
          have HSF := Lib.hid hSf
          have HBF := Lib.hid hBf
          clear hS4 hR4 y4 y5 hS5 hB5 hSf hBf B3 B4 B5 l4 hB2
          cases ok
          · go_wp2_with fail
            go_roundw
            case rel => exact ⟨P + 1, by omega, by omega, by go_num, by rw [HC'.out, HS.out, HK.out]; rfl, HSF.out, HBF.out⟩
            case measure => simp [intOf]; omega
          · go_wp2_with fail
            go_roundw
            case rel => exact ⟨P + 1, by omega, by omega, by go_num, by rw [HC'.out, HS.out, HK.out]; rfl, HSF.out, HBF.out⟩
            case measure => simp [intOf]; omega
        · obtain rfl : P = 4097 := by omega
          have hth := total_hi s.l OK.out.m
          have hpl := pages_le s.l
          obtain ⟨c, hc⟩ : ∃ c, total s.l 4097 = c := ⟨_, rfl⟩
          rw [hc] at hth htl ⊢
          have HTH := Lib.hid hth
          clear hc hth
          go_wp2_with fail
          have hll : s.l.length ≤ 64 := by omega
          go_loopw [16, 17] (fun wv i wr => ∃ q : Nat, q ≤ s.l.length ∧ i = .int .i64 q ∧ wv = .int .i64 (pages (s.l.take q)) ∧ St wr w.heap.size base b br s ∧ Below w.heap.size w wr)
            (fun _ i _ => s.l.length - (intOf i).toNat)
          case atStart => exact ⟨0, Nat.zero_le _, rfl, rfl, hS2, hB2⟩
          case round =>
            obtain ⟨q, hq, rfl, rfl, hS3, hB3⟩ := hrel
            clear hS2 hB2
            obtain ⟨v3, hR3⟩ := hS3.R
            have hp1 := pages_le (s.l.take q)
            rw [List.length_take] at hp1
            obtain ⟨va, vc, rfl⟩ := own_form hR3.hv
            have k1 : wr.cell? ⟨br, 1, none⟩ = some (.slice va s.l.length vc) := hR3.hb.cell 1
            by_cases hql : q < s.l.length
            · obtain ⟨g, cap2, cur, hv, hg, hext, hfit, hcell, hbg⟩ := own_row hR3.hv hql
              injection hv with hv1 _ hv2
              subst hv1
              have hm := OK.out.m _ (List.getElem_mem hql)
              have hlo := Tr.may_lo hm
              have hhi := Tr.may_hi hm
              have hsg := (s.l[q]).stop_gt
              have hsl := (s.l[q]).stop_le
              have hps := pages_succ s.l q hql
              obtain ⟨y, hy⟩ : ∃ y, s.l[q] = y := ⟨_, rfl⟩
              obtain ⟨sp, hsp⟩ : ∃ sp, y.stop = sp := ⟨_, rfl⟩
              rw [hy] at hlo hhi hext hcell hsg hsl hps
              rw [hsp] at hsg hsl hps
              have hend : ∀ W, Calls Try.prog 13 #[y.val] W fun r w' => r = .returned (.int .i64 sp) ∧ Below W.heap.size W w' := fun W => by rw [← hsp]; exact rEnd_b _ W hlo hhi
              obtain ⟨pq, hpq⟩ : ∃ pq, pages (s.l.take q) = pq := ⟨_, rfl⟩
              rw [hpq] at hps hp1 ⊢
              have c1 : wr.cell? ⟨g, q * 4, none⟩ = some (.int .i64 y.p) := (hg.cell _).trans hcell
              have r1 := hg.rowOf
              have r2 := hg.plain
              have hq0 : (0 : Int) ≤ (q : Int) := Int.natCast_nonneg _
              have hq1 : (q : Int) < (s.l.length : Int) := by omega
              have lg := hg.lt
              have lb := hR3.hb.lt
              have HG := Lib.hid hg
              have HE := Lib.hid hend
              have HPS := Lib.hid hps
              have HS3 := Lib.hid hS3
              clear hR3 hv2 hm hy hsp hend hg hcell hps hpq hS3
              have hw1 : IntKind.i64.wrap (pq + sp) = pq + sp := IntWalk.i64_in _ (by omega)
              have hw2 : IntKind.i64.wrap (pq + sp - y.p) = pq + sp - y.p := IntWalk.i64_in _ (by omega)
              go_wp2_with fail
              go_region_held3 (fun w' => w'.cell? ⟨br, 1, none⟩ = some (.slice (some ⟨g, 0, none⟩) s.l.length vc) ∧ w'.cell? ⟨g, q * 4, none⟩ = some (.int .i64 y.p) ∧ rowOf w' g = cur ∧ plainRow w' g = true) (first | exact ⟨e1, e4, e2, e3⟩ | exact ⟨k1, c1, r1, r2⟩ | go_keep)
                ((go_at_call 13; refine (HE.out _).mono ?_; rintro r w5 ⟨rfl, B5⟩; have e1 := (B5.cell (p := ⟨br, 1, none⟩) lb).trans k1; have e2 := (HG.out.drew.below B5 lg).rowOf; have e3 := (HG.out.drew.below B5 lg).plain; have e4 := (B5.cell (p := ⟨g, q * 4, none⟩) lg).trans c1))
              have hB5 : Below wr.heap.size wr w5 := (Below.refl _ _).drew.trans B5
              clear e1 e2 e3 e4 k1 c1 r1 r2 B5 hw1 hw2
              go_wp2_with fail
              go_roundw
              case rel => exact ⟨q + 1, by omega, by go_num, by rw [HPS.out]; go_num, HS3.out.below hB5, hB3.trans (hB5.mono hB3.size)⟩
              case measure => simp [intOf]; omega
            · obtain rfl : q = s.l.length := by omega
              rw [List.take_length] at hp1 ⊢
              have hpe : ((c : Int) == pages s.l) = true := by rw [HTH.out]; simp
              obtain ⟨pq, hpq⟩ : ∃ pq, pages s.l = pq := ⟨_, rfl⟩
              rw [hpq] at hpe hp1 ⊢
              obtain ⟨ok, cs, at0, hc, hs, hat, e1, e2, e3, hr⟩ := hS3.S
              have HL := Lib.hid (len_blk wr b s.l.length cs hc e2)
              have hln : decide (s.l.length ≤ n) = true := by simp; omega
              clear hR3 hpq ok hc hs e1 e2 e3 hr
              go_wp2_with (first
                | (go_at_call 14; refine HL.out.mono ?_; rintro r w5 ⟨rfl, rfl⟩)
                | (go_at_call 10; refine (awake_any _).mono ?_; rintro r w4 ⟨rfl, B4⟩))
              go_ret
              exact ⟨rfl, hB3.trans (B4.mono hB3.size)⟩
theorem finds (w : World) (n : Int) (A : Option Addr) (cap : Nat) (l : List TAct) (ha : ActsAt w A l) :
    Calls Try.prog 4 #[.int .i64 n, .slice A l.length cap] w fun r w' => r = .returned (.bool true) ∧ Below w.heap.size w w' := by
  by_cases h : n < 1 ∨ 64 < n
  · exact finds_no w n A _ cap h
  · obtain ⟨m, rfl⟩ := Int.eq_ofNat_of_zero_le (show 0 ≤ n by omega)
    exact finds_yes w m A cap l (by omega) (by omega) ha
end Go.Proofs.Ytgmmnekepelomaa
