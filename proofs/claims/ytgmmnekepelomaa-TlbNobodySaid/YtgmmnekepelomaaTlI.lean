/- Tlb: the reference's Find and Drop. -/
import Derived.Test.YtgmmnekepelomaaTlH
import Derived.Deep.AppendLies
namespace Go.Proofs.Ytgmmnekepelomaa
open Go.RowKit
attribute [local go_sem ↓] ld30 st30
attribute [local go_sem] run_ld30 run_st30 tr_ones tr_size tr_take tr_extract tr_put tr_put' tr_len

def flat (l : List Tr) : List Value := l.flatMap Tr.cells
theorem length_flat (l : List Tr) : (flat l).length = l.length * 4 := by
  induction l with
  | nil => rfl
  | cons e l ih => simp only [flat, List.flatMap_cons, List.length_append, List.length_cons, tr_len] at *; omega
theorem flat_append (l k : List Tr) : flat (l ++ k) = flat l ++ flat k := by simp [flat]
theorem flat_one (x : Tr) : flat [x] = x.cells := by simp [flat]
theorem flat_ones (l : List Tr) : ∀ u ∈ flat l, u.oneCell' = true := by
  intro u hu
  obtain ⟨x, _, h⟩ := List.mem_flatMap.1 hu
  simp only [Tr.cells, List.mem_cons, List.not_mem_nil, or_false] at h
  rcases h with rfl | rfl | rfl | rfl <;> rfl
theorem flat_at : ∀ (l : List Tr) (i : Nat) (h : i < l.length), ((flat l).drop (i * 4)).take 4 = l[i].cells
  | x :: l, 0, _ => by
    show (x.cells ++ flat l).take 4 = x.cells
    exact List.take_left' rfl
  | x :: l, i + 1, h => by
    have ih := flat_at l i (by simpa using h)
    rw [List.getElem_cons_succ, ← ih]
    show ((x.cells ++ flat l).drop ((i + 1) * 4)).take 4 = _
    rw [List.drop_append, List.drop_of_length_le (by rw [tr_len]; omega), List.nil_append]
    congr 2
    rw [tr_len]; omega
theorem own_form {w : World} {base : Nat} {e : TypeId} {size n : Nat} {v : Value} {xs : List Value} (h : w.ownsRow base e size v n xs) : ∃ a c, v = .slice a n c := by
  rcases h.2 with ⟨hv, h0⟩ | ⟨g, c, cur, hv, _⟩
  · exact ⟨none, 0, by rw [hv, h0]⟩
  · exact ⟨_, c, hv⟩
theorem own_lo {w : World} {base base' : Nat} {e : TypeId} {size n : Nat} {v : Value} {xs : List Value} (h : w.ownsRow base e size v n xs) (hb : base' ≤ base) : w.ownsRow base' e size v n xs := by
  refine ⟨h.1, ?_⟩
  rcases h.2 with hn | ⟨g, c, cur, hv, hg, rest⟩
  · exact .inl hn
  · exact .inr ⟨g, c, cur, hv, Nat.le_trans hb hg, rest⟩
theorem own_row {w : World} {base : Nat} {v : Value} {l : List Tr} (h : w.ownsRow base 30 4 v l.length (flat l)) {i : Nat} (hi : i < l.length) :
    ∃ g cap cur, v = .slice (some ⟨g, 0, none⟩) l.length cap ∧ Blk w g 30 cur ∧ cur.extract (i * 4) (i * 4 + 4) = l[i].cells.toArray ∧ i * 4 + 4 ≤ cur.size ∧ cur[i * 4]? = some (.int .i64 l[i].p) ∧ base ≤ g := by
  rcases h.2 with ⟨_, h0⟩ | ⟨g, cap, cur, rfl, hbg, hg, hc, _, hs, ht⟩
  · omega
  · have hfit : i * 4 + 4 ≤ cur.size := by rw [hs]; omega
    have hext : cur.extract (i * 4) (i * 4 + 4) = l[i].cells.toArray := by
      apply Array.ext'
      have e := flat_at l i hi
      rw [← ht] at e
      simp only [Array.toList_extract, List.extract_eq_take_drop]
      rw [show i * 4 + 4 - i * 4 = 4 by omega]
      rw [← e, List.drop_take, List.take_take, show min 4 (l.length * 4 - i * 4) = 4 by omega]
    refine ⟨g, cap, cur, rfl, hg, hext, hfit, ?_, hbg⟩
    have h0 : (cur.extract (i * 4) (i * 4 + 4))[0]? = some (.int .i64 l[i].p) := by rw [hext]; rfl
    rw [Array.getElem?_extract] at h0
    split at h0
    · simpa using h0
    · cases h0

/-- The reference's buffer. -/
structure RefAt (w : World) (base b : Nat) (v : Value) (s : Tl) : Prop where
  ok : s.ok
  hb : Blk w b 40 #[.int .i64 s.size, v]
  hv : w.ownsRow base 30 4 v s.l.length (flat s.l)
theorem RefAt.only {w w' : World} {base b : Nat} {v : Value} {s : Tl} {S : Nat → Prop} (h : RefAt w base b v s) (ho : Only S w w') (h1 : ¬ S b) (h3 : ∀ k, v.ownBlock = some k → ¬ S k) : RefAt w' base b v s :=
  ⟨h.ok, h.hb.only ho h1, own_only h.hv ho h3⟩
theorem RefAt.below {w w' : World} {base b : Nat} {v : Value} {s : Tl} (h : RefAt w base b v s) (hb : Below w.heap.size w w') : RefAt w' base b v s :=
  h.only (S := fun _ => False) (Only.of_below hb) (fun h => h) (fun _ _ h => h)
theorem info30 : (Try.prog.info? 30).map (fun i => (i.zero, i.size, i.bytes)) = some (some (.agg #[.int .i64 0, .int .i64 0, .int .i64 0, .bool false]), 4, 32) := by kernel_rfl

theorem rEnd_b (x : Tr) (w : World) (h1 : 0 ≤ x.p) (h2 : x.p < 4096) : Calls Try.prog 13 #[x.val] w fun r w' => r = .returned (.int .i64 x.stop) ∧ Below w.heap.size w w' := by
  obtain ⟨p, f, m, h0⟩ := x
  simp only at h1 h2
  unfold Tr.stop Tr.val Tr.cells
  cases h0
  all_goals
    go_enter Try.func13, Try.ntmps13
    go_wp2
    go_ret
    exact ⟨rfl, (Below.refl _ _).alloc (Nat.le_refl _) _⟩

theorem find_take_succ (l : List Tr) (p : Int) (k : Nat) (h : k < l.length) (h1 : ∀ x ∈ l.take k, x.has p = false) (h2 : l[k].has p = false) : ∀ x ∈ l.take (k + 1), x.has p = false := by
  intro x hx
  rw [take_snoc l k h] at hx
  rcases List.mem_append.1 hx with hx | hx
  · exact h1 x hx
  · obtain rfl : x = l[k] := by simpa using hx
    exact h2

set_option maxRecDepth 100000 in
set_option maxHeartbeats 4000000 in
theorem rFind_st (w : World) (base b : Nat) (v : Value) (s : Tl) (p : Int) (h : RefAt w base b v s) :
    Calls Try.prog 12 #[.pointer (some ⟨b, 0, none⟩), .int .i64 p] w fun r w' => r = .returned (findV (s.find p)) ∧ Below w.heap.size w w' := by
  have hput : putAt #[.int .i64 0, .int .i64 0, .int .i64 0, .bool false] 0 [.int .i64 0, .int .i64 0, .int .i64 0, .bool false] = #[.int .i64 0, .int .i64 0, .int .i64 0, .bool false] := rfl
  have hones : ones #[.int .i64 0, .int .i64 0, .int .i64 0, .bool false] = true := by simp [ones, Value.oneCell']
  have hb := h.hb.lt
  have h64 : s.l.length ≤ 64 := Nat.le_trans h.ok.n h.ok.s2
  obtain ⟨va, vc, rfl⟩ := own_form h.hv
  have HH := Lib.hid h
  clear h
  go_enter Try.func12, Try.ntmps12
  go_wp2_with fail
  have hB0 : Below w.heap.size w (w.alloc (.cells #[.int .i64 0, .int .i64 0, .int .i64 0, .bool false] 30)) := (Below.refl _ w).alloc (Nat.le_refl _) _
  have hA0 : Blk (w.alloc (.cells #[.int .i64 0, .int .i64 0, .int .i64 0, .bool false] 30)) w.heap.size 30 #[.int .i64 0, .int .i64 0, .int .i64 0, .bool false] := Blk.new _ _ _
  go_loopw [6] (fun i wr => ∃ k : Nat, k ≤ s.l.length ∧ i = .int .i64 k ∧ Below w.heap.size w wr ∧ Blk wr w.heap.size 30 #[.int .i64 0, .int .i64 0, .int .i64 0, .bool false] ∧ ∀ x ∈ s.l.take k, x.has p = false)
    (fun i _ => s.l.length - (intOf i).toNat)
  case atStart => exact ⟨0, Nat.zero_le _, rfl, hB0, hA0, fun x hx => by simp at hx⟩
  case round =>
    obtain ⟨k, hk, rfl, hB, hA, hno⟩ := hrel
    clear hB0 hA0
    have hR := HH.out.below hB
    have k1 : wr.cell? ⟨b, 1, none⟩ = some (.slice va s.l.length vc) := hR.hb.cell 1
    have r3 := hA.rowOf
    have r4 := hA.plain
    have la := hA.lt
    have HA := Lib.hid hA
    have HN := Lib.hid hno
    clear hA hno
    by_cases hlt : k < s.l.length
    · obtain ⟨g, cap, cur, hv, hg, hext, hfit, hcell, hbg⟩ := own_row hR.hv hlt
      injection hv with hv1 _ hv2
      subst hv1
      have hm := HH.out.ok.m _ (List.getElem_mem hlt)
      have hlo := Tr.may_lo hm
      have hhi := Tr.may_hi hm
      obtain ⟨y, hy⟩ : ∃ y, s.l[k] = y := ⟨_, rfl⟩
      obtain ⟨sp, hsp⟩ : ∃ sp, y.stop = sp := ⟨_, rfl⟩
      rw [hy] at hlo hhi hext hcell
      have hend : ∀ W, Calls Try.prog 13 #[y.val] W fun r w' => r = .returned (.int .i64 sp) ∧ Below W.heap.size W w' := fun W => by rw [← hsp]; exact rEnd_b _ W hlo hhi
      have c1 : wr.cell? ⟨g, k * 4, none⟩ = some (.int .i64 y.p) := (hg.cell _).trans hcell
      have r1 := hg.rowOf
      have r2 := hg.plain
      have hk0 : (0 : Int) ≤ (k : Int) := Int.natCast_nonneg _
      have hk1 : (k : Int) < (s.l.length : Int) := by omega
      have HG := Lib.hid hg
      have HE := Lib.hid hend
      have HY := Lib.hid hy
      have HSP := Lib.hid hsp
      have HR := Lib.hid hR
      have lg := hg.lt
      clear hR hv2 hm hy hsp hend hg hcell
      by_cases h1 : y.p ≤ p
      · by_cases h2 : p < sp
        · go_wp2_with (go_at_call 13; refine (HE.out _).mono ?_; rintro r w5 ⟨rfl, B5⟩; have e1 : w5.cell? ⟨b, 1, none⟩ = some (.slice (some ⟨g, 0, none⟩) s.l.length vc) := (HR.out.hb.below B5 HR.out.hb.lt).cell 1; have e2 := (HG.out.below B5 lg).rowOf; have e3 := (HG.out.below B5 lg).plain; have e4 := (HA.out.below B5 la).rowOf; have e5 := (HA.out.below B5 la).plain)
          have hf : s.find p = some y := by
            unfold Tl.find
            rw [List.find?_eq_some_iff_getElem]
            refine ⟨by unfold Tr.has; rw [HSP.out]; simp [h1, h2], k, hlt, HY.out, fun j hj => ?_⟩
            have := HN.out (s.l[j]) (List.mem_iff_getElem.2 ⟨j, by simp; omega, by simp⟩)
            simpa using this
          rw [hf]
          refine bodyPost_ret (results_cellTmp rfl _ _ rfl (run_loadVar_blk _ _ _ 30 30 _ _ 4 ((HA.out.below B5 la).row_ _) Try.underlying30 rfl (by kernel_rfl) (Nat.le_refl 4))) rfl ?_
          exact ⟨rfl, Below.setRow (hB.trans (B5.mono hB.size)) (Nat.le_refl _) _⟩
        · have e2' : decide (p < sp) = false := by simpa using h2
          clear h2
          go_wp2_with (go_at_call 13; refine (HE.out _).mono ?_; rintro r w5 ⟨rfl, B5⟩)
          go_roundw
          case rel =>
            refine ⟨k + 1, by omega, by go_num, hB.trans (B5.mono hB.size), HA.out.below B5 la, find_take_succ _ _ _ hlt HN.out ?_⟩
            rw [HY.out]; unfold Tr.has; rw [HSP.out]; simp [e2']
          case measure => simp [intOf]; omega
      · have e1' : decide (y.p ≤ p) = false := by simpa using h1
        clear h1
        go_wp2_with fail
        go_roundw
        case rel =>
          refine ⟨k + 1, by omega, by go_num, hB, HA.out, find_take_succ _ _ _ hlt HN.out ?_⟩
          rw [HY.out]; unfold Tr.has; simp [e1']
        case measure => simp [intOf]; omega
    · obtain rfl : k = s.l.length := by omega
      clear hR
      go_wp2_with fail
      have hf : s.find p = none := by
        unfold Tl.find
        rw [List.find?_eq_none]
        intro x hx
        have := HN.out x (by rwa [List.take_length])
        simpa using this
      rw [hf]
      refine bodyPost_ret (results_cellTmp rfl _ _ rfl (run_loadVar_blk _ _ _ 30 30 _ _ 4 (HA.out.row_ _) Try.underlying30 rfl (by kernel_rfl) (Nat.le_refl 4))) rfl ?_
      exact ⟨rfl, Below.setRow hB (Nat.le_refl _) _⟩
end Go.Proofs.Ytgmmnekepelomaa
