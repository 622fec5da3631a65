/- Tlb: Fill. -/
import Derived.Test.YtgmmnekepelomaaTlG
namespace Go.Proofs.Ytgmmnekepelomaa
open Go.RowKit
attribute [local go_sem ↓] ld30 st30
attribute [local go_sem] run_ld30 run_st30 tr_ones tr_size tr_take tr_extract tr_put tr_put' tr_len

theorem dropAt_out {s : Tl} {i : Int} (h : i < 0 ∨ (s.l.length : Int) ≤ i) : s.dropAt i = s ∧ s.at_ i = none := by
  unfold Tl.dropAt Tl.at_
  by_cases h0 : 0 ≤ i
  · rw [if_pos h0, if_pos h0, List.eraseIdx_of_length_le (by omega), List.getElem?_eq_none (by omega)]
    exact ⟨rfl, rfl⟩
  · rw [if_neg h0, if_neg h0]; exact ⟨rfl, rfl⟩
theorem dropAt_st (w : World) (b : Nat) (s : Tl) (i : Int) (h : TlAt w b s) : Calls Try.prog 18 #[.pointer (some ⟨b, 0, none⟩), .int .i64 i] w fun r w' =>
    r = .returned (findV (s.at_ i)) ∧ TlAt w' b (s.dropAt i) ∧ Only (· = b) w w' := by
  by_cases hi : i < 0 ∨ (s.l.length : Int) ≤ i
  · obtain ⟨e1, e2⟩ := dropAt_out hi
    rw [e1, e2]
    have hT := h
    obtain ⟨ok, cs, at0, hc, hs, hat, e1, e2, e3, hr⟩ := h
    refine (dropAt_no w b s.l.length cs i hc e2 hi).mono ?_
    rintro r w' ⟨rfl, B⟩
    exact ⟨rfl, hT.below B, Only.of_below B⟩
  · obtain ⟨k, rfl⟩ := Int.eq_ofNat_of_zero_le (show 0 ≤ i by omega)
    have hk : k < s.l.length := by omega
    refine (dropAt_yes w b k s h hk).mono ?_
    rintro r w' ⟨rfl, T, O⟩
    unfold Tl.at_ Tl.dropAt
    rw [if_pos (by omega), if_pos (by omega), Int.toNat_natCast, List.getElem?_eq_getElem hk]
    exact ⟨rfl, T, O⟩

/-- What is there behind a Fill. -/
def Tl.room (s : Tl) : Tl := if s.l.length = s.size then { s with l := s.l.tail } else s
def Tl.fill (s : Tl) (x : Tr) : Tl := if x.may then { s with l := (s.drop x.p x.stop).room.l ++ [x] } else s

theorem fill_nil (w : World) (x : Tr) : Calls Try.prog 15 #[.pointer none, x.val] w fun r w' => r = .returned (.int .i64 1) ∧ Below w.heap.size w w' := by
  go_enter Try.func15, Try.ntmps15
  go_wp2
  go_ret
  exact ⟨rfl, (Below.refl _ _).alloc (Nat.le_refl _) _⟩
theorem fill_zero (w : World) (b : Nat) (cs : Array Value) (x : Tr) (h : Blk w b 50 cs) (h1 : cs[258]? = some (.int .i64 0)) : Calls Try.prog 15 #[.pointer (some ⟨b, 0, none⟩), x.val] w fun r w' => r = .returned (.int .i64 1) ∧ Below w.heap.size w w' := by
  have c0 : w.cell? ⟨b, 258, none⟩ = some (.int .i64 0) := (h.cell 258).trans h1
  have hb := h.lt
  clear h h1
  go_enter Try.func15, Try.ntmps15
  go_wp2
  go_ret
  exact ⟨rfl, (Below.refl _ _).alloc (Nat.le_refl _) _⟩
theorem fill_no (w : World) (b size : Nat) (cs : Array Value) (x : Tr) (h : Blk w b 50 cs) (h1 : cs[258]? = some (.int .i64 size)) (hs : 1 ≤ size) (hx : x.may = false) : Calls Try.prog 15 #[.pointer (some ⟨b, 0, none⟩), x.val] w fun r w' => r = .returned (.int .i64 1) ∧ Below w.heap.size w w' := by
  have c0 : w.cell? ⟨b, 258, none⟩ = some (.int .i64 size) := (h.cell 258).trans h1
  have hb := h.lt
  have hz : ((size : Int) == 0) = false := by simp; omega
  have HM := Lib.hid (fun W => may_f x W)
  have HX := Lib.hid hx
  clear h h1 hx
  go_enter Try.func15, Try.ntmps15
  go_wp2_with (go_at_call 26; refine (HM.out _).mono ?_; rintro r w1 ⟨rfl, B1⟩; rw [HX.out])
  go_ret
  exact ⟨rfl, ((Below.refl _ _).alloc (Nat.le_refl _) _).trans (B1.mono (by simp))⟩

theorem ring_tail {cs : Array Value} {at0 : Nat} {l : List Tr} (h : Ring cs at0 l) : Ring cs ((at0 + 1) % 64) l.tail := by
  intro k x hk
  have := h (k + 1) x (by rw [← hk, List.getElem?_tail])
  rw [show ((at0 + 1) % 64 + k) % 64 = (at0 + (k + 1)) % 64 by omega]
  exact this
theorem ring_snoc {cs : Array Value} {at0 : Nat} {l : List Tr} {x : Tr} (h : Ring cs at0 l) (hs : cs.size = 259) (hl : l.length < 64) : Ring (putAt cs ((at0 + l.length) % 64 * 4) x.cells) at0 (l ++ [x]) := by
  intro k y hk
  have hkl := (List.getElem?_eq_some_iff.1 hk).1
  rw [List.length_append, List.length_singleton] at hkl
  rw [ring_put hs hl (by omega)]
  split
  · rename_i e
    subst e
    simp at hk
    rw [hk]
  · rw [List.getElem?_append_left (by omega)] at hk
    exact h k y hk

/-- Behind the dropping, before the new one is laid. -/
structure Rm (w W : World) (b t3 at0 size : Nat) (l : List Tr) (x : Tr) : Prop where
  ex : ∃ cs : Array Value, Blk W b 50 cs ∧ cs.size = 259 ∧ cs[256]? = some (.int .i64 at0) ∧ cs[257]? = some (.int .i64 l.length) ∧ cs[258]? = some (.int .i64 size) ∧ Ring cs at0 l
  hat : at0 < 64
  bx : Blk W t3 30 x.cells.toArray
  o : Only (· = b) w W

set_option maxRecDepth 100000 in
set_option maxHeartbeats 4000000 in
theorem fill_yes (w : World) (b : Nat) (s : Tl) (x : Tr) (h : TlAt w b s) (hx : x.may = true) : Calls Try.prog 15 #[.pointer (some ⟨b, 0, none⟩), x.val] w fun r w' =>
    r = .returned (.int .i64 0) ∧ TlAt w' b (s.fill x) ∧ Only (· = b) w w' := by
  have hT := h
  obtain ⟨ok, cs, at0, hc, hs, hat, e1, e2, e3, hr⟩ := h
  have hb := hc.lt
  have c0 : w.cell? ⟨b, 258, none⟩ = some (.int .i64 s.size) := (hc.cell 258).trans e3
  have hz : ((s.size : Int) == 0) = false := by have := ok.s1; simp; omega
  have HM := Lib.hid (fun W => may_f x W)
  have HX := Lib.hid hx
  have HT := Lib.hid hT
  have OK := Lib.hid ok
  clear hc hs hat e1 e2 e3 hr hx hT ok
  go_enter Try.func15, Try.ntmps15
  go_wp2_with (go_at_call 26; refine (HM.out _).mono ?_; rintro r w1 ⟨rfl, B1⟩; rw [HX.out])
  have B1' : Below w.heap.size w w1 := ((Below.refl _ _).alloc (Nat.le_refl _) _).trans (B1.mono (by simp))
  have bx1 : Blk w1 w.heap.size 30 x.cells.toArray := (Blk.new w 30 x.cells.toArray).below B1 (by simp)
  have k1 : w1.cell? ⟨w.heap.size, 0, none⟩ = some (.int .i64 x.p) := bx1.cell 0
  have r1 := bx1.rowOf
  have r2 := bx1.plain
  have l1 := bx1.lt
  have HT1 := Lib.hid (HT.out.below B1')
  have HB1 := Lib.hid B1'
  have BX1 := Lib.hid bx1
  obtain ⟨sp, hsp⟩ : ∃ sp, x.stop = sp := ⟨_, rfl⟩
  have hend : ∀ W, Calls Try.prog 25 #[x.val] W fun r w' => r = .returned (.int .i64 sp) ∧ Below W.heap.size W w' := fun W => by rw [← hsp]; exact end_f x W HX.out
  have HE := Lib.hid hend
  have HSP := Lib.hid hsp
  clear c0 hz B1 B1' bx1 hend hsp
  go_region_with (first
    | (go_at_call 25; refine (HE.out _).mono ?_; rintro r w5 ⟨rfl, B5⟩; have e5 : w5.cell? ⟨w.heap.size, 0, none⟩ = some (.int .i64 x.p) := (B5.cell (p := ⟨w.heap.size, 0, none⟩) l1).trans k1)
    | (go_at_call 17; refine (drop_st _ b s _ _ (HT1.out.below ((Below.refl _ _).drew.trans B5))).mono ?_; rintro r w6 ⟨rfl, T6, O6⟩))
  all_goals
    have B5' : Below w1.heap.size w1 w5 := (Below.refl _ _).drew.trans B5
    have hO6 : Only (· = b) w w6 := (Only.of_below (HB1.out.trans (B5'.mono HB1.out.size))).trans O6
    have bx6 : Blk w6 w.heap.size 30 x.cells.toArray := (BX1.out.below B5' l1).only O6 (by omega)
    obtain ⟨s1, hs1⟩ : ∃ s1, s1 = s.drop x.p sp := ⟨_, rfl⟩
    have hs1z : s1.size = s.size := by rw [hs1]; rfl
    have hf1 : s.fill x = { s with l := s1.room.l ++ [x] } := by unfold Tl.fill; rw [if_pos HX.out, HSP.out, ← hs1]
    rw [← hs1] at T6 ⊢
    obtain ⟨ok6, cs6, a6, hc6, z6, hat6, f1, f2, f3, hr6⟩ := T6
    rw [hs1z] at f3
    have hle := ok6.n
    rw [hs1z] at hle
    have h64 := OK.out.s2
    have h1s := OK.out.s1
    have l6 := hc6.lt
    have hm6 := ok6.m
    have c257 : w6.cell? ⟨b, 257, none⟩ = some (.int .i64 s1.l.length) := (hc6.cell 257).trans f2
    have c258 : w6.cell? ⟨b, 258, none⟩ = some (.int .i64 s.size) := (hc6.cell 258).trans f3
    have fz6 : w6.frozen? ⟨b, 256, none⟩ = false := hc6.frozen 256
    have fz7 : w6.frozen? ⟨b, 257, none⟩ = false := hc6.frozen 257
    have c256 : w6.cell? ⟨b, 256, none⟩ = some (.int .i64 a6) := (hc6.cell 256).trans f1
    have HS1 := Lib.hid hs1
    have HS1Z := Lib.hid hs1z
    have HF1 := Lib.hid hf1
    have HC6 := Lib.hid hc6
    have F1 := Lib.hid f1
    have F2 := Lib.hid f2
    have F3 := Lib.hid f3
    have HR6 := Lib.hid hr6
    have Z6 := Lib.hid z6
    have HM6 := Lib.hid hm6
    clear k1 r1 r2 B5 e5 O6 B5' hs1 hs1z hf1 hc6 f1 f2 f3 hr6 z6 ok6 hm6
    by_cases hfull : s1.l.length = s.size
    · have hb1 : ((s1.l.length : Int) == (s.size : Int)) = true := by simp [hfull]
      have hi6 : ∀ n, Calls Try.prog 27 #[.pointer (some ⟨b, 0, none⟩), .int .i64 1] (w6.drewN n) fun r w' => r = .returned (.int .i64 (((a6 + 1) % 64 : Nat) : Int)) ∧ (w6.drewN n) = w' := fun n => i_blk _ b a6 1 cs6 (HC6.out.drewN n) F1.out hat6 (by omega)
      have HFULL := Lib.hid hfull
      obtain ⟨a7, ha7⟩ : ∃ a7, a7 = (a6 + 1) % 64 := ⟨_, rfl⟩
      have HA7 := Lib.hid ha7
      rw [← ha7] at hi6
      have HI6 := Lib.hid hi6
      clear hi6 hfull ha7
      go_wp2_with fail
      go_quiet (fail)
      go_wp2_with (go_at_call 27; refine (HI6.out _).mono ?_; rintro r w9 ⟨rfl, rfl⟩)
      obtain ⟨l7, hl7e⟩ : ∃ l7, l7 = s1.l.tail := ⟨_, rfl⟩
      have hcast : (s1.l.length : Int) - 1 = (l7.length : Int) := by rw [hl7e, List.length_tail]; have := HFULL.out; omega
      rw [hcast]
      obtain ⟨W7, hW7⟩ : ∃ W7, ((w6.drewN nq).setCell ⟨b, 256, none⟩ (.int .i64 (a7 : Int))).setCell ⟨b, 257, none⟩ (.int .i64 (l7.length : Int)) = W7 := ⟨_, rfl⟩
      have hf7 : s1.room.l = l7 := by unfold Tl.room; rw [if_pos (by rw [HS1Z.out]; exact HFULL.out), hl7e]
      have hE7 : s.fill x = { s with l := l7 ++ [x] } := by rw [HF1.out, hf7]
      have hz6 := Z6.out
      have hR : Rm w W7 b w.heap.size a7 s.size l7 x := by
        rw [← hW7]
        refine ⟨⟨_, ((HC6.out.drewN nq).set_ 256 (.int .i64 (a7 : Int))).set_ 257 (.int .i64 (l7.length : Int)), by simp [hz6], ?_, ?_, ?_, ?_⟩, by rw [HA7.out]; omega, ((bx6.drewN _).far (p := ⟨b, 256, none⟩) (by simp; omega) _).far (p := ⟨b, 257, none⟩) (by simp; omega) _, ((hO6.drewN _).setCell (p := ⟨b, 256, none⟩) (.inl rfl) _).setCell (p := ⟨b, 257, none⟩) (.inl rfl) _⟩
        · rw [Array.getElem?_setIfInBounds_ne (by decide), Array.getElem?_setIfInBounds_self, if_pos (by omega)]
        · rw [Array.getElem?_setIfInBounds_self, if_pos (by simp; omega)]
        · rw [Array.getElem?_setIfInBounds_ne (by decide), Array.getElem?_setIfInBounds_ne (by decide)]; exact F3.out
        · intro k y hk
          rw [extract_set (.inl (by omega)), extract_set (.inl (by omega)), HA7.out]
          exact ring_tail HR6.out k y (by rw [← hl7e]; exact hk)
      have hm7 : ∀ y ∈ l7 ++ [x], y.may = true := by
        rw [hl7e]; intro y hy
        rcases List.mem_append.1 hy with hy | hy
        · exact HM6.out y (List.mem_of_mem_tail hy)
        · obtain rfl : y = x := by simpa using hy
          exact HX.out
      have hl7 : l7.length < s.size := by have := HFULL.out; omega
      have l7b : b < W7.heap.size := by rw [← hW7]; simp; exact l6
      have HE7 := Lib.hid hE7
      have HL7 := Lib.hid hl7e
      have HCA := Lib.hid hcast
      rw [hW7]
      have HW7 := Lib.hid hW7
      clear hE7 hf7 hl7e hW7 hcast hz6 c256 c257 c258 fz6 fz7 hO6 bx6 hle hb1
      obtain ⟨⟨cs7, hc7, z7, g1, g2, g3, hr7⟩, hat7, bx7, o7⟩ := hR
      obtain ⟨n7, hn7⟩ : ∃ n7, n7 = l7.length := ⟨_, rfl⟩
      rw [← hn7] at g2 hl7
      obtain ⟨q, hq⟩ : ∃ q, q = (a7 + n7) % 64 := ⟨_, rfl⟩
      have hq64 : q < 64 := by omega
      have hq0 : (0 : Int) ≤ (q : Int) := Int.natCast_nonneg _
      have hq1 : (q : Int) < 64 := by omega
      have hfit : q * 4 + 4 ≤ cs7.size := by omega
      have m1 : W7.cell? ⟨b, 257, none⟩ = some (.int .i64 n7) := (hc7.cell 257).trans g2
      have v1 := hc7.rowOf
      have v2 := hc7.plain
      have v3 := bx7.rowOf
      have v4 := bx7.plain
      have hi7 : Calls Try.prog 27 #[.pointer (some ⟨b, 0, none⟩), .int .i64 n7] W7.drew fun r w' => r = .returned (.int .i64 (q : Nat)) ∧ W7.drew = w' := by
        rw [hq]
        exact i_blk _ b a7 n7 cs7 hc7.drew g1 hat7 (by omega)
      have hputs : (putAt cs7 (q * 4) x.cells).size = 259 := by rw [size_putAt (by rw [tr_len]; omega)]; exact z7
      have hp6 : (putAt cs7 (q * 4) x.cells)[256]? = some (.int .i64 a7) := by rw [putAt_get (by rw [tr_len]; omega) (.inr (by rw [tr_len]; omega))]; exact g1
      have hp7 : (putAt cs7 (q * 4) x.cells)[257]? = some (.int .i64 n7) := by rw [putAt_get (by rw [tr_len]; omega) (.inr (by rw [tr_len]; omega))]; exact g2
      have hp8 : (putAt cs7 (q * 4) x.cells)[258]? = some (.int .i64 s.size) := by rw [putAt_get (by rw [tr_len]; omega) (.inr (by rw [tr_len]; omega))]; exact g3
      have hrp : Ring (putAt cs7 (q * 4) x.cells) a7 (l7 ++ [x]) := by rw [hq, hn7]; exact ring_snoc hr7 z7 (by omega)
      have hbp : Blk ((W7.setRow b (putAt cs7 (q * 4) x.cells)).drew) b 50 (putAt cs7 (q * 4) x.cells) := (hc7.row_ _).drew
      have hlp : (l7 ++ [x]).length = n7 + 1 := by rw [List.length_append, ← hn7]; rfl
      have hfin := ring_len (s := s) (l := l7 ++ [x]) hbp hputs hp6 hp8 hat7 hrp OK.out.s1 OK.out.s2 (by rw [hlp]; omega) hm7
      have hofin : Only (· = b) w (((W7.setRow b (putAt cs7 (q * 4) x.cells)).drew).setCell ⟨b, 257, none⟩ (.int .i64 (((l7 ++ [x]).length : Nat) : Int))) := ((o7.setRow (.inl rfl) _).drew).setCell (p := ⟨b, 257, none⟩) (.inl rfl) _
      rw [hlp] at hfin hofin
      have m2 : (W7.setRow b (putAt cs7 (q * 4) x.cells)).cell? ⟨b, 257, none⟩ = some (.int .i64 n7) := (hbp.cell 257).trans hp7
      have m3 : (W7.setRow b (putAt cs7 (q * 4) x.cells)).frozen? ⟨b, 257, none⟩ = false := hbp.frozen 257
      have HI7 := Lib.hid hi7
      have HFIN := Lib.hid hfin
      have HOF := Lib.hid hofin
      have HHN := Lib.hid hn7
      clear hi7 hfin hofin hn7 hlp hbp hrp hp6 hp7 hp8 hputs hr7 g1 g2 g3 z7 hc7 bx7 o7 hq hm7
      go_wp2_with (first
        | (refine wp_region_stG 11 (by kernel_rfl) (by kernel_rfl) ?_
           simp only [List.take_succ_cons, List.take_zero, List.drop_succ_cons, List.drop_zero]
           repeat (first
             | (refine StG.want rfl (fun K hK => ?_); go_simp; (try go_bits); refine hK _ ?_; clear hK K)
             | (refine StG.want rfl (fun K hK => ?_); go_simp; refine ⟨_, HI7.out.mono (fun _ _ h => ⟨h.1, h.2.symm⟩), hK _ ?_⟩; clear hK K))
           refine StG.nil ?_))
      go_ret
      refine ⟨rfl, ?_, HOF.out⟩
      rw [HE7.out]
      exact HFIN.out
    · have hb1 : ((s1.l.length : Int) == (s.size : Int)) = false := by simp; omega
      have hl7 : s1.l.length < s.size := by omega
      have hf7 : s1.room = s1 := by unfold Tl.room; rw [if_neg (by rw [HS1Z.out]; exact hfull)]
      clear hfull
      go_wp2_with fail
      go_quiet (fail)
      go_wp2_with fail
      obtain ⟨W7, hW7⟩ : ∃ W7, w6.drewN nq = W7 := ⟨_, rfl⟩
      obtain ⟨l7, hl7e⟩ : ∃ l7, l7 = s1.l := ⟨_, rfl⟩
      obtain ⟨a7, ha7⟩ : ∃ a7, a7 = a6 := ⟨_, rfl⟩
      have hE7 : s.fill x = { s with l := l7 ++ [x] } := by rw [HF1.out, hf7, hl7e]
      have hR : Rm w W7 b w.heap.size a7 s.size l7 x := by rw [← hW7, hl7e, ha7]; exact ⟨⟨cs6, HC6.out.drewN _, Z6.out, F1.out, F2.out, F3.out, HR6.out⟩, hat6, bx6.drewN _, hO6.drewN _⟩
      have hm7 : ∀ y ∈ l7 ++ [x], y.may = true := by
        rw [hl7e]; intro y hy
        rcases List.mem_append.1 hy with hy | hy
        · exact HM6.out y hy
        · obtain rfl : y = x := by simpa using hy
          exact HX.out
      rw [← hl7e] at hl7
      have l7b : b < W7.heap.size := by rw [← hW7]; exact l6
      have HE7 := Lib.hid hE7
      have HL7 := Lib.hid hl7e
      rw [hW7]
      have HW7 := Lib.hid hW7
      clear hE7 hf7 hl7e hW7 ha7 c256 c257 c258 fz6 fz7 hO6 bx6 hle
      obtain ⟨⟨cs7, hc7, z7, g1, g2, g3, hr7⟩, hat7, bx7, o7⟩ := hR
      obtain ⟨n7, hn7⟩ : ∃ n7, n7 = l7.length := ⟨_, rfl⟩
      rw [← hn7] at g2 hl7
      obtain ⟨q, hq⟩ : ∃ q, q = (a7 + n7) % 64 := ⟨_, rfl⟩
      have hq64 : q < 64 := by omega
      have hq0 : (0 : Int) ≤ (q : Int) := Int.natCast_nonneg _
      have hq1 : (q : Int) < 64 := by omega
      have hfit : q * 4 + 4 ≤ cs7.size := by omega
      have m1 : W7.cell? ⟨b, 257, none⟩ = some (.int .i64 n7) := (hc7.cell 257).trans g2
      have v1 := hc7.rowOf
      have v2 := hc7.plain
      have v3 := bx7.rowOf
      have v4 := bx7.plain
      have hi7 : Calls Try.prog 27 #[.pointer (some ⟨b, 0, none⟩), .int .i64 n7] W7.drew fun r w' => r = .returned (.int .i64 (q : Nat)) ∧ W7.drew = w' := by
        rw [hq]
        exact i_blk _ b a7 n7 cs7 hc7.drew g1 hat7 (by omega)
      have hputs : (putAt cs7 (q * 4) x.cells).size = 259 := by rw [size_putAt (by rw [tr_len]; omega)]; exact z7
      have hp6 : (putAt cs7 (q * 4) x.cells)[256]? = some (.int .i64 a7) := by rw [putAt_get (by rw [tr_len]; omega) (.inr (by rw [tr_len]; omega))]; exact g1
      have hp7 : (putAt cs7 (q * 4) x.cells)[257]? = some (.int .i64 n7) := by rw [putAt_get (by rw [tr_len]; omega) (.inr (by rw [tr_len]; omega))]; exact g2
      have hp8 : (putAt cs7 (q * 4) x.cells)[258]? = some (.int .i64 s.size) := by rw [putAt_get (by rw [tr_len]; omega) (.inr (by rw [tr_len]; omega))]; exact g3
      have hrp : Ring (putAt cs7 (q * 4) x.cells) a7 (l7 ++ [x]) := by rw [hq, hn7]; exact ring_snoc hr7 z7 (by omega)
      have hbp : Blk ((W7.setRow b (putAt cs7 (q * 4) x.cells)).drew) b 50 (putAt cs7 (q * 4) x.cells) := (hc7.row_ _).drew
      have hlp : (l7 ++ [x]).length = n7 + 1 := by rw [List.length_append, ← hn7]; rfl
      have hfin := ring_len (s := s) (l := l7 ++ [x]) hbp hputs hp6 hp8 hat7 hrp OK.out.s1 OK.out.s2 (by rw [hlp]; omega) hm7
      have hofin : Only (· = b) w (((W7.setRow b (putAt cs7 (q * 4) x.cells)).drew).setCell ⟨b, 257, none⟩ (.int .i64 (((l7 ++ [x]).length : Nat) : Int))) := ((o7.setRow (.inl rfl) _).drew).setCell (p := ⟨b, 257, none⟩) (.inl rfl) _
      rw [hlp] at hfin hofin
      have m2 : (W7.setRow b (putAt cs7 (q * 4) x.cells)).cell? ⟨b, 257, none⟩ = some (.int .i64 n7) := (hbp.cell 257).trans hp7
      have m3 : (W7.setRow b (putAt cs7 (q * 4) x.cells)).frozen? ⟨b, 257, none⟩ = false := hbp.frozen 257
      have HI7 := Lib.hid hi7
      have HFIN := Lib.hid hfin
      have HOF := Lib.hid hofin
      have HHN := Lib.hid hn7
      clear hi7 hfin hofin hn7 hlp hbp hrp hp6 hp7 hp8 hputs hr7 g1 g2 g3 z7 hc7 bx7 o7 hq hm7
      go_wp2_with (first
        | (refine wp_region_stG 11 (by kernel_rfl) (by kernel_rfl) ?_
           simp only [List.take_succ_cons, List.take_zero, List.drop_succ_cons, List.drop_zero]
           repeat (first
             | (refine StG.want rfl (fun K hK => ?_); go_simp; (try go_bits); refine hK _ ?_; clear hK K)
             | (refine StG.want rfl (fun K hK => ?_); go_simp; refine ⟨_, HI7.out.mono (fun _ _ h => ⟨h.1, h.2.symm⟩), hK _ ?_⟩; clear hK K))
           refine StG.nil ?_))
      go_ret
      refine ⟨rfl, ?_, HOF.out⟩
      rw [HE7.out]
      exact HFIN.out

theorem fill_st (w : World) (b : Nat) (s : Tl) (x : Tr) (h : TlAt w b s) : Calls Try.prog 15 #[.pointer (some ⟨b, 0, none⟩), x.val] w fun r w' =>
    r = .returned (.int .i64 (if x.may then 0 else 1)) ∧ TlAt w' b (s.fill x) ∧ Only (· = b) w w' := by
  cases hx : x.may
  · have hT := h
    obtain ⟨ok, cs, at0, hc, hs, hat, e1, e2, e3, hr⟩ := h
    refine (fill_no w b s.size cs x hc e3 ok.s1 hx).mono ?_
    rintro r w' ⟨rfl, B⟩
    unfold Tl.fill
    rw [hx]
    exact ⟨rfl, hT.below B, Only.of_below B⟩
  · exact fill_yes w b s x h hx
end Go.Proofs.Ytgmmnekepelomaa
