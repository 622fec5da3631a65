/- Shoot: the law Ends, walked. -/
import Derived.Test.YtfekllnalacggaaShK
namespace Go.Proofs.Ytfekllnalacggaa
open Go.RowKit
attribute [local go_sem ↓] ld35 st35 ld41
attribute [local go_sem] run_ld35 run_st35

theorem Sh.run_d (s : Sh) (l : List SAct) : (s.run l).d.length = s.d.length := by
  induction l generalizing s with
  | nil => rfl
  | cons a l ih =>
    have h1 : (s.step a).d.length = s.d.length := by
      unfold Sh.step Sh.post Sh.hand
      split
      · split <;> rfl
      · split <;> simp
    exact (ih (s.step a)).trans h1

theorem ends_no (w : World) (n : Int) (A : Option Addr) (len cap : Nat) (h : n < 1 ∨ 64 < n) :
    Calls Try.prog 3 #[.int .i64 n, .slice A len cap] w fun r w' => r = .returned (.bool true) ∧ Below w.heap.size w w' := by
  have H := Lib.hid h; clear h
  go_enter Try.func3, Try.ntmps3
  go_wp2_with (first
    | (go_at_call 7; refine (made_no _ _ _ _ _ H.out).mono ?_; rintro r w1 ⟨rfl, rfl⟩)
    | (go_at_call 8; refine (awake_any _).mono ?_; rintro r w1 ⟨rfl, B1⟩))
  go_ret
  exact ⟨rfl, B1⟩

/-- The cores ahead of c have done all, c has done k, those behind what they had. -/
structure Half (w W : World) (base b e br ed : Nat) (v : Value) (s0 s : Sh) (c k : Nat) : Prop where
  S : ShAt W b e s
  R : RefAt W base br ed v s0
  l : s.l = s0.l
  n : s.d.length = s0.d.length
  lo : ∀ j, j < c → s.d[j]? = some s0.l.length
  at_ : s.d[c]? = some k
  hi : ∀ j, c < j → s.d[j]? = s0.d[j]?
  B : Below w.heap.size w W
structure Full (w W : World) (base b e br ed : Nat) (v : Value) (s0 s : Sh) (c : Nat) : Prop where
  S : ShAt W b e s
  R : RefAt W base br ed v s0
  l : s.l = s0.l
  n : s.d.length = s0.d.length
  lo : ∀ j, j < c → s.d[j]? = some s0.l.length
  hi : ∀ j, c ≤ j → s.d[j]? = s0.d[j]?
  B : Below w.heap.size w W

set_option maxRecDepth 100000 in
set_option maxHeartbeats 4000000 in
theorem ends_yes (w : World) (n : Nat) (A : Option Addr) (cap : Nat) (l : List SAct) (h1 : 1 ≤ n) (h2 : n ≤ 64) (ha : ActsAt w A l) :
    Calls Try.prog 3 #[.int .i64 n, .slice A l.length cap] w fun r w' => r = .returned (.bool true) ∧ Below w.heap.size w w' := by
  have hlen : ((Sh.made n).run l).l.length * 32 ≤ 140737488351232 := by
    have h := Sh.run_len (Sh.made n) l
    have h3 : (Sh.made n).l.length = 0 := rfl
    have := ha.1
    omega
  have hdn : ((Sh.made n).run l).d.length = n := by rw [Sh.run_d]; simp [Sh.made]
  have HA := Lib.hid ha; clear ha
  go_enter Try.func3, Try.ntmps3
  go_wp2_with (go_at_call 7; refine (made_yes _ n _ _ l h1 h2 HA.out).mono ?_; rintro r w1 ⟨b, e, br, ed, base, rfl, S1, B1⟩)
  obtain ⟨s0, hs0⟩ : ∃ s0, s0 = (Sh.made n).run l := ⟨_, rfl⟩
  rw [← hs0] at hlen hdn S1
  obtain ⟨S, ⟨v, R⟩, nb, ne, nr, nd, _⟩ := S1
  have hF0 : Full w w1 base b e br ed v s0 s0 0 := ⟨S, R, rfl, rfl, fun j h => absurd h (Nat.not_lt_zero _), fun _ _ => rfl, B1⟩
  clear S R B1 hs0
  go_loopw [9] (fun i wr => ∃ (c : Nat) (s : Sh), c ≤ n ∧ i = .int .i64 c ∧ Full w wr base b e br ed v s0 s c)
    (fun i _ => n - (intOf i).toNat)
  case atStart => exact ⟨0, s0, Nat.zero_le _, rfl, hF0⟩
  case round =>
    obtain ⟨c, s, hc, rfl, hF⟩ := hrel
    clear hF0
    by_cases hcl : c < n
    · have c1 : wr.cell? ⟨br, 1, none⟩ = some (.slice (some ⟨ed, 0, none⟩) s0.d.length s0.d.length) := hF.R.hb.cell 1
      have hcd : c < s0.d.length := by omega
      have c2 : wr.cell? ⟨ed, c, none⟩ = some (.int .i64 (s0.d[c] : Int)) := by rw [hF.R.hd.cell]; simp [hcd]
      have hH0 : Half w wr base b e br ed v s0 s c s0.d[c] := ⟨hF.S, hF.R, hF.l, hF.n, hF.lo, by rw [hF.hi c (Nat.le_refl _), List.getElem?_eq_getElem hcd], fun j hj => hF.hi j (by omega), hF.B⟩
      have hk0 : s0.d[c] ≤ s0.l.length := by
        have := hF.S.ok.hd s0.d[c] (List.mem_of_getElem? (i := c) hH0.at_)
        rwa [hF.l] at this
      obtain ⟨k0, hk0e⟩ : ∃ k0, k0 = s0.d[c] := ⟨_, rfl⟩
      rw [← hk0e] at c2 hH0 hk0
      clear hF hk0e
      go_wp2_with fail
      go_loopw [10] (fun i wr => ∃ (k : Nat) (s : Sh), k ≤ s0.l.length ∧ i = .int .i64 k ∧ Half w wr base b e br ed v s0 s c k)
        (fun i _ => s0.l.length - (intOf i).toNat)
      case atStart => exact ⟨k0, s, hk0, rfl, hH0⟩
      case round =>
        obtain ⟨k, s', hk, rfl, hH⟩ := hrel
        clear hH0 c1 c2
        have hcd' : c < s'.d.length := by rw [hH.n]; exact hcd
        have hdid : s'.did (c : Int) = k := by
          rw [Sh.did_in hcd']
          have := hH.at_
          rw [List.getElem?_eq_getElem hcd'] at this
          simpa using this
        by_cases hkl : k < s0.l.length
        · obtain ⟨g, gc, cur, rfl, hg, hcur, hfit⟩ := own_req hH.R.hv hkl
          have d0 : wr.cell? ⟨br, 0, none⟩ = some (.slice (some ⟨g, 0, none⟩) s0.l.length gc) := hH.R.hb.cell 0
          obtain ⟨x, hx⟩ : ∃ x, x = s0.l[k] := ⟨_, rfl⟩
          rw [← hx] at hcur
          have hnext : handV (s'.next c) = .tuple #[.int .i64 x.f, .int .i64 x.t, .bool true] := by
            unfold Sh.next
            rw [hdid, hH.l, List.getElem?_eq_getElem hkl, ← hx]
            rfl
          have hhand : s'.hand c = { s' with d := s'.d.set c (k + 1) } := by
            unfold Sh.hand
            rw [hdid, if_pos (by rw [hH.l]; exact hkl), Int.toNat_natCast]
          have HH := Lib.hid hH
          have HG := Lib.hid hg
          have HX := Lib.hid hx
          have HCUR := Lib.hid hcur
          clear hH hg hx hcur hdid
          go_wp2_with fail
          refine (handle_sh _ _ _ _ _ HH.out.S).mono ?_
          rintro r w3 ⟨rfl, S3, O3⟩
          rw [hnext]
          have R3 := HH.out.R.kept HH.out.S (O3.mono (fun k hk => .inr hk))
          have hge : ¬ (g = e) := by
            obtain ⟨cs, hcs⟩ := HH.out.S.cs
            exact HG.out.ne_ hcs (by decide)
          have hg3 : Blk w3 g 35 cur := HG.out.only O3 hge
          have d0' : w3.cell? ⟨br, 0, none⟩ = some (.slice (some ⟨g, 0, none⟩) s0.l.length gc) := R3.hb.cell 0
          have y1 : w3.cell? ⟨g, k * 2, none⟩ = some (.int .i64 x.f) := by
            rw [hg3.cell]
            have h0 : (cur.extract (k * 2) (k * 2 + 2))[0]? = some (.int .i64 x.f) := by rw [HCUR.out]; rfl
            rw [Array.getElem?_extract] at h0
            split at h0
            · simpa using h0
            · cases h0
          have y2 : w3.cell? ⟨g, k * 2 + 1, none⟩ = some (.int .i64 x.t) := by
            rw [hg3.cell]
            have h0 : (cur.extract (k * 2) (k * 2 + 2))[1]? = some (.int .i64 x.t) := by rw [HCUR.out]; rfl
            rw [Array.getElem?_extract] at h0
            split at h0
            · exact h0
            · cases h0
          rw [hhand] at S3
          have hH3 : Half w w3 base b e br ed (.slice (some ⟨g, 0, none⟩) s0.l.length gc) s0 { s' with d := s'.d.set c (k + 1) } c (k + 1) := by
            refine ⟨S3, R3, HH.out.l, by simpa using HH.out.n, fun j hj => ?_, ?_, fun j hj => ?_, HH.out.B.trans (O3.below HH.out.B.size (fun k hk => by rw [hk]; exact ne))⟩
            · show (s'.d.set c (k + 1))[j]? = _
              rw [List.getElem?_set_ne (by omega)]
              exact HH.out.lo j hj
            · show (s'.d.set c (k + 1))[c]? = _
              simp [hcd']
            · show (s'.d.set c (k + 1))[j]? = _
              rw [List.getElem?_set_ne (by omega)]
              exact HH.out.hi j hj
          clear S3 R3 hg3 d0
          go_wp2_with fail
          go_roundw
          case rel => exact ⟨k + 1, _, by omega, by go_num, hH3⟩
          case measure => simp [intOf]; omega
        · have hke : k = s0.l.length := by omega
          obtain ⟨va, vc, hv⟩ := own_form hH.R.hv
          have d0 : wr.cell? ⟨br, 0, none⟩ = some (.slice va s0.l.length vc) := by rw [← hv]; exact hH.R.hb.cell 0
          have hw0 : decide (0 < s'.l.length - s'.did (c : Int)) = false := by rw [hdid, hH.l, hke]; simp
          have hkl' : decide (k < s0.l.length) = false := by simpa using hkl
          have HH := Lib.hid hH
          have HV := Lib.hid hv
          clear hH hv hdid
          go_wp2_with (go_at_call 10; refine (waiting_any _ _ _ _ _ HH.out.S).mono ?_; rintro r w3 ⟨rfl, rfl⟩; rw [hw0])
          go_roundw
          case rel =>
            refine ⟨c + 1, s', by omega, by go_num, HH.out.S, HH.out.R, HH.out.l, HH.out.n, fun j hj => ?_, fun j hj => HH.out.hi j (by omega), HH.out.B⟩
            by_cases hjc : j = c
            · subst hjc; rw [HH.out.at_, hke]
            · exact HH.out.lo j (by omega)
          case measure => simp [intOf]; omega
    · obtain rfl : c = n := by omega
      go_wp2_with fail
      have hpz : ∀ g : Int, g ≤ s0.l.length → s.pend g s.d.length = 0 := by
        intro g hg
        unfold Sh.pend
        rw [List.take_length, List.countP_eq_zero]
        intro k hk hopen
        obtain ⟨j, hj, rfl⟩ := List.getElem_of_mem hk
        have := hF.lo j (by rw [hF.n] at hj; omega)
        rw [List.getElem?_eq_getElem hj] at this
        simp only [Option.some.injEq] at this
        unfold Sh.open_ at hopen
        simp only [Bool.and_eq_true, decide_eq_true_eq] at hopen
        omega
      have HPZ := Lib.hid hpz
      have hsl : s.l.length * 16 ≤ 140737488355328 := by rw [hF.l]; omega
      clear hpz
      go_loopw [14] (fun i wr => ∃ g : Nat, g ≤ s0.l.length + 1 ∧ i = .int .i64 g ∧ Full w wr base b e br ed v s0 s c)
        (fun i _ => s0.l.length + 1 - (intOf i).toNat)
      case atStart => exact ⟨1, by omega, rfl, hF⟩
      case round =>
        obtain ⟨g, hg, rfl, hG⟩ := hrel
        clear hF
        obtain ⟨va, vc, hv⟩ := own_form hG.R.hv
        have d0 : wr.cell? ⟨br, 0, none⟩ = some (.slice va s0.l.length vc) := by rw [← hv]; exact hG.R.hb.cell 0
        have HV := Lib.hid hv
        clear hv
        have HGG := Lib.hid hG
        clear hG
        by_cases hgl : g ≤ s0.l.length
        · have hz := HPZ.out g (by omega)
          go_wp2_with fail
          refine (pending_sh _ _ _ _ _ HGG.out.S hsl).mono ?_
          rintro r w3 ⟨rfl, B3⟩
          rw [hz]
          go_wp2_with fail
          go_roundw
          case rel => exact ⟨g + 1, by omega, by go_num, HGG.out.S.below B3, HGG.out.R.below B3, HGG.out.l, HGG.out.n, HGG.out.lo, HGG.out.hi, HGG.out.B.trans (B3.mono HGG.out.B.size)⟩
          case measure => simp [intOf]; omega
        · have hgl' : decide (g ≤ s0.l.length) = false := by simpa using hgl
          go_wp2_with (go_at_call 8; refine (awake_any _).mono ?_; rintro r w4 ⟨rfl, B4⟩)
          go_ret
          exact ⟨rfl, HGG.out.B.trans (B4.mono HGG.out.B.size)⟩
theorem ends (w : World) (n : Int) (A : Option Addr) (cap : Nat) (l : List SAct) (ha : ActsAt w A l) :
    Calls Try.prog 3 #[.int .i64 n, .slice A l.length cap] w fun r w' => r = .returned (.bool true) ∧ Below w.heap.size w w' := by
  by_cases h : n < 1 ∨ 64 < n
  · exact ends_no w n A _ cap h
  · obtain ⟨m, rfl⟩ := Int.eq_ofNat_of_zero_le (show 0 ≤ n by omega)
    exact ends_yes w m A cap l (by omega) (by omega) ha
end Go.Proofs.Ytfekllnalacggaa
