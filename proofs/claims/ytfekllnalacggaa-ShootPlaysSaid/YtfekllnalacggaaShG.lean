/- Shoot: Post goes through all cores. -/
import Derived.Test.YtfekllnalacggaaShF
import Derived.Deep.DrawnRows
namespace Go.Proofs.Ytfekllnalacggaa
open Go.RowKit
attribute [local go_sem ↓] ld35 st35
attribute [local go_sem] run_ld35 run_st35
attribute [local go_sem ↓] Go.wp_at_zero Go.wp_at_succ

/-- In the midst of Post: the first c cores have it. -/
structure Mid (w W : World) (b e : Nat) (s : Sh) (x : Req) (c : Nat) : Prop where
  hb : Blk W b 46 #[.slice (some ⟨e, 0, none⟩) s.d.length s.d.length, .int .i64 ((s.l.length + 1 : Nat) : Int)]
  he : ∃ cs : Array Value, Blk W e 58 cs ∧ cs.size = s.d.length ∧ ∀ (j k : Nat), s.d[j]? = some k → ∃ q, cs[j]? = some q ∧ QAt W q (if j < c then s.l ++ [x] else s.l) k
  ho : Only (fun k => k = b ∨ k = e) w W

theorem ask_ones (g : Nat) (x : Req) : ∀ u ∈ askC g x, u.oneCell' = true := by
  intro u hu
  simp only [askC, List.mem_cons, List.not_mem_nil, or_false] at hu
  rcases hu with rfl | rfl | rfl <;> rfl

theorem mid_step {w wr W2 : World} {b e c k : Nat} {s : Sh} {x : Req} {q : Value} {cs : Array Value} (hb : Blk wr b 46 #[.slice (some ⟨e, 0, none⟩) s.d.length s.d.length, .int .i64 ((s.l.length + 1 : Nat) : Int)]) (hc : Blk wr e 58 cs) (hs : cs.size = s.d.length)
    (hx : ∀ (j k : Nat), s.d[j]? = some k → ∃ q, cs[j]? = some q ∧ QAt wr q (if j < c then s.l ++ [x] else s.l) k) (ho : Only (fun k => k = b ∨ k = e) w wr) (ho2 : Only (fun _ => False) wr W2) (hcl : c < s.d.length) (hk : k = s.d[c]) (hq : QAt W2 q (s.l ++ [x]) k) :
    Mid w (W2.setCell ⟨e, c, none⟩ q) b e s x (c + 1) := by
  have hbe : b ≠ e := hb.ne_ hc (by decide)
  have hc2 : Blk W2 e 58 cs := hc.only ho2 (fun h => h)
  have ho3 : Only (fun k => k = b ∨ k = e) W2 (W2.setCell ⟨e, c, none⟩ q) := (Only.refl (fun k => k = b ∨ k = e) W2).setCell (p := ⟨e, c, none⟩) (.inl (.inr rfl)) q
  have hfar : ∀ q' l j, QAt W2 q' l j → QAt (W2.setCell ⟨e, c, none⟩ q) q' l j := fun q' l j h =>
    h.only (S := (· = e)) ((Only.refl (· = e) W2).setCell (p := ⟨e, c, none⟩) (.inl rfl) q) (fun g cur hg h => hg.ne_ hc2 (by decide) h)
  refine ⟨(hb.only ho2 (fun h => h)).far (p := ⟨e, c, none⟩) hbe _, ⟨cs.setIfInBounds c q, hc2.set_ c q, by simpa using hs, fun j k' hj => ?_⟩, (ho.trans (ho2.mono (fun _ h => h.elim))).trans ho3⟩
  by_cases hjc : j = c
  · subst hjc
    have h1 : k' = k := by
      rw [List.getElem?_eq_getElem hcl] at hj
      simp only [Option.some.injEq] at hj
      rw [hk, hj]
    subst h1
    refine ⟨q, by simp [hs, hcl], ?_⟩
    rw [if_pos (Nat.lt_succ_self _)]
    exact hfar _ _ _ hq
  · obtain ⟨q', e1, e2⟩ := hx j k' hj
    refine ⟨q', by rw [Array.getElem?_setIfInBounds_ne (Ne.symm hjc)]; exact e1, ?_⟩
    have e3 : (if j < c + 1 then s.l ++ [x] else s.l) = (if j < c then s.l ++ [x] else s.l) := by
      by_cases h1 : j < c
      · rw [if_pos h1, if_pos (by omega)]
      · rw [if_neg h1, if_neg (by omega)]
    rw [e3]
    exact hfar _ _ _ (e2.only ho2 (fun _ _ _ h => h))

set_option maxRecDepth 100000 in
set_option maxHeartbeats 4000000 in
theorem post_yes (w : World) (b e : Nat) (s : Sh) (f t : Int) (h : ShAt w b e s) (hc : Sh.can f t) (hn : s.l.length + 1 ≤ maxLen) (hby : (s.l.length + 1) * 24 ≤ 140737488355328) :
    Calls Try.prog 15 #[.pointer (some ⟨b, 0, none⟩), .int .i64 f, .int .i64 t] w fun r w' => r = .returned (.tuple #[.int .i64 ((s.l.length + 1 : Nat) : Int), .int .i64 0]) ∧
      ShAt w' b e { s with l := s.l ++ [⟨f, t⟩] } ∧ Only (fun k => k = b ∨ k = e) w w' := by
  obtain ⟨i0, hi0, hz0, hz1, hz2⟩ := info_parts info61
  have hbe := h.ne
  have hok := h.ok
  have hlt := h.hb.lt
  have c0 : w.cell? ⟨b, 0, none⟩ = some (.slice (some ⟨e, 0, none⟩) s.d.length s.d.length) := h.hb.cell 0
  have c1 : w.cell? ⟨b, 1, none⟩ = some (.int .i64 s.l.length) := h.hb.cell 1
  have f1 : w.frozen? ⟨b, 1, none⟩ = false := h.hb.frozen 1
  have h1 := hc.1
  have h2 : decide (t ≤ f) = false := by have := hc.2.1; simp; omega
  have h3 : decide (4096 < t) = false := by have := hc.2.2; simp; omega
  have h4 : decide (f < 0) = false := by simp; omega
  have hz : ((s.d.length : Int) == 0) = false := by have := hok.c1; rw [beq_eq_false_iff_ne]; omega
  have hnn : s.l.length ≤ 9223372036854775806 := by unfold maxLen at hn; omega
  have HH := Lib.hid h
  have HC := Lib.hid hc
  have HOK := Lib.hid hok
  clear h hc hok
  go_enter Try.func15, Try.ntmps15
  go_wp2_with fail
  have hM0 : Mid w (w.setCell ⟨b, 1, none⟩ (.int .i64 ((s.l.length : Int) + 1))) b e s ⟨f, t⟩ 0 := by
    obtain ⟨ok, hb, cs, hc, hs, hx⟩ := HH.out
    have ho := (Only.refl (fun k => k = b ∨ k = e) w).setCell (p := ⟨b, 1, none⟩) (.inl (.inl rfl)) (.int .i64 ((s.l.length : Int) + 1))
    refine ⟨hb.set_ 1 _, ⟨cs, hc.far (p := ⟨b, 1, none⟩) (Ne.symm hbe) _, hs, fun j k hj => ?_⟩, ho⟩
    obtain ⟨q, h1, h2⟩ := hx j k hj
    refine ⟨q, h1, ?_⟩
    rw [if_neg (Nat.not_lt_zero _)]
    exact h2.only ho (fun g cur hg hh => hh.elim (hg.ne_ hb (by decide)) (hg.ne_ hc (by decide)))
  clear c0 c1 f1 h1 h2 h3 h4 hz
  go_loopw [45] (fun i wr => ∃ c : Nat, c ≤ s.d.length ∧ i = .int .i64 c ∧ Mid w wr b e s ⟨f, t⟩ c)
    (fun i _ => s.d.length - (intOf i).toNat)
  case atStart => exact ⟨0, Nat.zero_le _, rfl, hM0⟩
  case round =>
    obtain ⟨c, hc, rfl, hM⟩ := hrel
    clear hM0
    by_cases hcl : c < s.d.length
    · obtain ⟨hb, ⟨cs, hcs, hsz, hx⟩, ho⟩ := hM
      obtain ⟨q, hq, hqa⟩ := hx c _ (List.getElem?_eq_getElem hcl)
      rw [if_neg (Nat.lt_irrefl _)] at hqa
      have hk := HOK.out.hd s.d[c] (List.getElem_mem hcl)
      obtain ⟨a, cap, olds, rfl, hcap, hol, hnil, hform, hold, helt⟩ := hqa.olds
      obtain ⟨k, hkk⟩ : ∃ k, k = s.d[c] := ⟨_, rfl⟩
      rw [← hkk] at hk hqa hcap hol hnil hq helt
      obtain ⟨n, hnk⟩ : ∃ n, n = s.l.length - k := ⟨_, rfl⟩
      rw [← hnk] at hcap hol hnil hq
      have hnl : n ≤ s.l.length := by rw [hnk]; omega
      have hlt1 := hb.lt
      have hlt2 := hcs.lt
      have c0 : wr.cell? ⟨b, 0, none⟩ = some (.slice (some ⟨e, 0, none⟩) s.d.length s.d.length) := hb.cell 0
      have c1 : wr.cell? ⟨b, 1, none⟩ = some (.int .i64 ((s.l.length : Int) + 1)) := hb.cell 1
      have c2 : wr.cell? ⟨e, c, none⟩ = some (.slice a n cap) := (hcs.cell c).trans hq
      have f2 : wr.frozen? ⟨e, c, none⟩ = false := hcs.frozen c
      have h64 := HOK.out.c2
      have n0 : (0 : Int) ≤ (n : Int) := Int.natCast_nonneg _
      have n1 : (n : Int) ≤ (cap : Int) := by omega
      have hc0 : (0 : Int) ≤ (c : Int) := Int.natCast_nonneg _
      have hc1 : (c : Int) < (s.d.length : Int) := by omega
      have HB := Lib.hid hb
      have HCS := Lib.hid hcs
      have HSZ := Lib.hid hsz
      have HX := Lib.hid hx
      have HO := Lib.hid ho
      have HK := Lib.hid hk
      have HKK := Lib.hid hkk
      have HQA := Lib.hid hqa
      have HNK := Lib.hid hnk
      have HEL := Lib.hid helt
      have HOL := Lib.hid hol
      have HOLD := Lib.hid hold
      have HCAP := Lib.hid hcap
      clear hb hcs hsz hx ho hk hkk hqa hnk helt hol hold hcap hq
      rcases hform with rfl | ⟨g, off, rfl, hg⟩
      · obtain rfl := hnil rfl
        go_wp2_with fail
        refine wp_region_lastL (fun w' => w'.cell? ⟨b, 0, none⟩ = some (.slice (some ⟨e, 0, none⟩) s.d.length s.d.length) ∧ w'.cell? ⟨b, 1, none⟩ = some (.int .i64 ((s.l.length : Int) + 1)) ∧
            w'.cell? ⟨e, c, none⟩ = some (.slice none 0 cap)) 23 (by kernel_rfl) (by kernel_rfl) ⟨c0, c1, c2⟩ ?_
        simp only [List.dropLast_cons_cons, List.dropLast_singleton, List.getLast_cons_cons, List.getLast_singleton, List.take_succ_cons, List.take_zero, List.drop_succ_cons, List.drop_zero]
        repeat
          refine StH.take (v := ?_) rfl (fun w' hS => ?_) ?_
          rotate_left
          · (obtain ⟨s1, s2, s3⟩ := hS; go_simp; try with_reducible rfl)
          simp only [Act.put, List.setIfInBounds_toArray, List.set_cons_zero, List.set_cons_succ]
        refine StH.nil (TailH.step rfl (fun K hK => ?_))
        go_wp2
        refine hK _ _ ⟨(HB.out.alloc _).cell 0, (HB.out.alloc _).cell 1, (HCS.out.alloc _).cell c |>.trans ((HCS.out.cell c).symm.trans c2)⟩ ?_
        clear hK K
        refine TailH.step rfl (fun K hK => ?_)
        refine wp_append_full (by rfl) _ _ 58 (by rfl) 61 i0 _ 3 24 Try.underlying58 hi0 hz0 hz1 hz2 rfl none 0 olds (by rfl) HOL.out (by intro ad h; cases h) (fun _ => rfl)
          ⟨wr.heap.size, 0, none⟩ 1 1 (askC (s.l.length + 1) ⟨f, t⟩) (by rfl) (by rfl) (World.news_of_block (t := 61) (fr := (0, 0)) (heap_alloc_new wr _)) (ask_ones _ _) (by omega) (by omega) (by omega) (wr.heap.size + 1) (by simp) ?_
        intro cap2 cs2 hcap2 hcs2 hin2
        obtain ⟨W2, hW2⟩ : ∃ W2, (wr.alloc (.cells #[.int .i64 ((s.l.length : Int) + 1), .int .i64 f, .int .i64 t] 61)).drew.drew.alloc (.cells cs2 61) = W2 := ⟨_, rfl⟩
        have O2 : Only (fun _ => False) wr W2 := by rw [← hW2]; exact ((((Only.refl _ wr).alloc _).drew).drew).alloc _
        have hB2 : Blk W2 b 46 #[.slice (some ⟨e, 0, none⟩) s.d.length s.d.length, .int .i64 ((s.l.length + 1 : Nat) : Int)] := HB.out.only O2 (fun h => h)
        have hC2 : Blk W2 e 58 cs := HCS.out.only O2 (fun h => h)
        have bH : Blk W2 (wr.heap.size + 1) 61 cs2 := by rw [← hW2]; exact Blk.new' _ _ (by simp)
        have k2 : W2.cell? ⟨e, c, none⟩ = some (.slice none 0 cap) := (hC2.cell c).trans ((HCS.out.cell c).symm.trans c2)
        have k3 : W2.frozen? ⟨e, c, none⟩ = false := hC2.frozen c
        rw [show (wr.alloc (.cells #[.int .i64 ((s.l.length : Int) + 1), .int .i64 f, .int .i64 t] 61)).drew.drew.alloc (.cells cs2 61) = W2 from hW2]
        refine hK _ _ ⟨hB2.cell 0, hB2.cell 1, k2⟩ ?_
        have hq := QAt.appended (x := ⟨f, t⟩) HK.out bH (by rw [← HNK.out]; exact hcap2) hcs2 (by rw [← HNK.out]; exact HOL.out) hin2 HEL.out
        rw [← HNK.out] at hq
        have HQ := Lib.hid hq
        clear hK K hW2 hB2 hC2 bH hcap2 hcs2 hin2 hq
        refine TailH.step rfl (fun K hK => ?_)
        go_wp2
        refine hK _ _ ⟨(HB.out.only O2 (fun h => h)).cell 0, (HB.out.only O2 (fun h => h)).cell 1, k2⟩ ?_
        clear hK K
        refine TailH.nil ?_
        go_wp2
        go_roundw
        case rel => exact ⟨c + 1, by omega, by go_num, mid_step HB.out HCS.out HSZ.out HX.out HO.out O2 hcl HKK.out HQ.out⟩
        case measure => simp [intOf]; omega
      · have hcl0 := hg
        go_wp2_with fail
        refine wp_region_lastL (fun w' => w'.cell? ⟨b, 0, none⟩ = some (.slice (some ⟨e, 0, none⟩) s.d.length s.d.length) ∧ w'.cell? ⟨b, 1, none⟩ = some (.int .i64 ((s.l.length : Int) + 1)) ∧
            w'.cell? ⟨e, c, none⟩ = some (.slice (some ⟨g, off, none⟩) n cap)) 23 (by kernel_rfl) (by kernel_rfl) ⟨c0, c1, c2⟩ ?_
        simp only [List.dropLast_cons_cons, List.dropLast_singleton, List.getLast_cons_cons, List.getLast_singleton, List.take_succ_cons, List.take_zero, List.drop_succ_cons, List.drop_zero]
        repeat
          refine StH.take (v := ?_) rfl (fun w' hS => ?_) ?_
          rotate_left
          · (obtain ⟨s1, s2, s3⟩ := hS; go_simp; try with_reducible rfl)
          simp only [Act.put, List.setIfInBounds_toArray, List.set_cons_zero, List.set_cons_succ]
        refine StH.nil (TailH.step rfl (fun K hK => ?_))
        go_wp2
        refine hK _ _ ⟨(HB.out.alloc _).cell 0, (HB.out.alloc _).cell 1, (HCS.out.alloc _).cell c |>.trans ((HCS.out.cell c).symm.trans c2)⟩ ?_
        clear hK K
        refine TailH.step rfl (fun K hK => ?_)
        refine wp_append_full (by rfl) _ _ 58 (by rfl) 61 i0 _ 3 24 Try.underlying58 hi0 hz0 hz1 hz2 rfl (some ⟨g, off, none⟩) n olds (by rfl) HOL.out (fun ad h j v hj => ((World.cell?_of_block (Below.heap_alloc wr _ _ (by rw [block_of_add]; exact (HOLD.out ad h).1))).trans ((HOLD.out ad h).2 j v hj))) (fun h => by cases h)
          ⟨wr.heap.size, 0, none⟩ 1 1 (askC (s.l.length + 1) ⟨f, t⟩) (by rfl) (by rfl) (World.news_of_block (t := 61) (fr := (0, 0)) (heap_alloc_new wr _)) (ask_ones _ _) (by omega) (by omega) (by omega) (wr.heap.size + 1) (by simp) ?_
        intro cap2 cs2 hcap2 hcs2 hin2
        obtain ⟨W2, hW2⟩ : ∃ W2, (wr.alloc (.cells #[.int .i64 ((s.l.length : Int) + 1), .int .i64 f, .int .i64 t] 61)).drew.drew.alloc (.cells cs2 61) = W2 := ⟨_, rfl⟩
        have O2 : Only (fun _ => False) wr W2 := by rw [← hW2]; exact ((((Only.refl _ wr).alloc _).drew).drew).alloc _
        have hB2 : Blk W2 b 46 #[.slice (some ⟨e, 0, none⟩) s.d.length s.d.length, .int .i64 ((s.l.length + 1 : Nat) : Int)] := HB.out.only O2 (fun h => h)
        have hC2 : Blk W2 e 58 cs := HCS.out.only O2 (fun h => h)
        have bH : Blk W2 (wr.heap.size + 1) 61 cs2 := by rw [← hW2]; exact Blk.new' _ _ (by simp)
        have k2 : W2.cell? ⟨e, c, none⟩ = some (.slice (some ⟨g, off, none⟩) n cap) := (hC2.cell c).trans ((HCS.out.cell c).symm.trans c2)
        have k3 : W2.frozen? ⟨e, c, none⟩ = false := hC2.frozen c
        rw [show (wr.alloc (.cells #[.int .i64 ((s.l.length : Int) + 1), .int .i64 f, .int .i64 t] 61)).drew.drew.alloc (.cells cs2 61) = W2 from hW2]
        refine hK _ _ ⟨hB2.cell 0, hB2.cell 1, k2⟩ ?_
        have hq := QAt.appended (x := ⟨f, t⟩) HK.out bH (by rw [← HNK.out]; exact hcap2) hcs2 (by rw [← HNK.out]; exact HOL.out) hin2 HEL.out
        rw [← HNK.out] at hq
        have HQ := Lib.hid hq
        clear hK K hW2 hB2 hC2 bH hcap2 hcs2 hin2 hq
        refine TailH.step rfl (fun K hK => ?_)
        go_wp2
        refine hK _ _ ⟨(HB.out.only O2 (fun h => h)).cell 0, (HB.out.only O2 (fun h => h)).cell 1, k2⟩ ?_
        clear hK K
        refine TailH.nil ?_
        go_wp2
        go_roundw
        case rel => exact ⟨c + 1, by omega, by go_num, mid_step HB.out HCS.out HSZ.out HX.out HO.out O2 hcl HKK.out HQ.out⟩
        case measure => simp [intOf]; omega
    · have e0 : c = s.d.length := by omega
      obtain ⟨hb, ⟨cs, hcs, hsz, hx⟩, ho⟩ := hM
      have c1 : wr.cell? ⟨b, 1, none⟩ = some (.int .i64 ((s.l.length : Int) + 1)) := hb.cell 1
      go_wp2
      go_ret2
      refine ⟨rfl, ⟨⟨HOK.out.c1, HOK.out.c2, fun k hk => ?_⟩, ?_, cs, hcs, hsz, fun j k hj => ?_⟩, ho⟩
      · have := HOK.out.hd k hk
        simp; omega
      · simpa using hb
      · obtain ⟨q, h1, h2⟩ := hx j k hj
        have hjl : j < s.d.length := (List.getElem?_eq_some_iff.1 hj).1
        rw [if_pos (by omega)] at h2
        exact ⟨q, h1, h2⟩
end Go.Proofs.Ytfekllnalacggaa
