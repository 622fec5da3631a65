/- Tlb: Drop, DropAt. -/
import Derived.Test.YtgmmnekepelomaaTlF
namespace Go.Proofs.Ytgmmnekepelomaa
open Go.RowKit
attribute [local go_sem ↓] ld30 st30
attribute [local go_sem] run_ld30 run_st30 tr_ones tr_size tr_take tr_extract tr_put tr_put' tr_len

def Tl.drop (s : Tl) (a b : Int) : Tl := { s with l := s.l.filter fun x => !x.meets a b }
def Tl.at_ (s : Tl) (i : Int) : Option Tr := if 0 ≤ i then s.l[i.toNat]? else none
def Tl.dropAt (s : Tl) (i : Int) : Tl := if 0 ≤ i then { s with l := s.l.eraseIdx i.toNat } else s
theorem take_snoc {α : Type} (l : List α) (k : Nat) (h : k < l.length) : l.take (k + 1) = l.take k ++ [l[k]] := by
  rw [List.take_succ_eq_append_getElem h]
theorem kept_filter (l : List Tr) (q : Tr → Bool) : ∀ k, k ≤ l.length → kept (fun _ x => q x) l k = (l.take k).filter q
  | 0, _ => by simp [kept_zero]
  | k + 1, h => by
    rw [kept_succ _ l k (by omega), kept_filter l q k (by omega), take_snoc l k (by omega), List.filter_append]
    congr 1
    cases hq : q l[k]
    · rw [List.filter_cons_of_neg (by simpa using hq)]; rfl
    · rw [List.filter_cons_of_pos (by simpa using hq)]; rfl
theorem kept_erase (l : List Tr) (i : Nat) : ∀ k, k ≤ l.length → kept (fun k _ => decide ((k : Int) ≠ (i : Int))) l k = (l.take k).eraseIdx i
  | 0, _ => by simp [kept_zero]
  | k + 1, h => by
    rw [kept_succ _ l k (by omega), kept_erase l i k (by omega), take_snoc l k (by omega)]
    have hl : (l.take k).length = k := by simp; omega
    by_cases hi : i < k
    · rw [List.eraseIdx_append_of_lt_length (by omega), if_pos (by simp; omega)]
    · rw [List.eraseIdx_append_of_length_le (by omega), List.eraseIdx_of_length_le (by omega), hl]
      by_cases hik : k = i
      · subst hik
        rw [if_neg (by simp), Nat.sub_self]
        rfl
      · rw [if_pos (by simp; omega)]
        congr 1
        rw [List.eraseIdx_of_length_le]
        simp; omega

theorem drop_nil (w : World) (a b : Int) : Calls Try.prog 17 #[.pointer none, .int .i64 a, .int .i64 b] w fun r w' => r = .returned (.int .i64 0) ∧ Below w.heap.size w w' := by
  have hmf : ∀ (fn : Fn) (first cap : Array Value) (w : World), (Instr.makeFunc fn first cap).run Try.prog w = .ok (.func fn first cap) w := fun _ _ _ _ => rfl
  go_enter Try.func17, Try.ntmps17
  go_wp2_with (go_at_call 28; refine (keep_nil _ _).mono ?_; rintro r w1 ⟨rfl, rfl⟩)
  go_ret
  exact ⟨rfl, ((Below.refl _ _).alloc (Nat.le_refl _) _).alloc (by simp) _⟩
theorem drop_st (w : World) (b : Nat) (s : Tl) (f t : Int) (h : TlAt w b s) : Calls Try.prog 17 #[.pointer (some ⟨b, 0, none⟩), .int .i64 f, .int .i64 t] w fun r w' =>
    r = .returned (.int .i64 ((s.l.length : Int) - (s.drop f t).l.length)) ∧ TlAt w' b (s.drop f t) ∧ Only (· = b) w w' := by
  have hmf : ∀ (fn : Fn) (first cap : Array Value) (w : World), (Instr.makeFunc fn first cap).run Try.prog w = .ok (.func fn first cap) w := fun _ _ _ _ => rfl
  have hb := h.lt
  have hk : (s.drop f t).l = kept (fun _ x => !x.meets f t) s.l s.l.length := by
    rw [kept_filter s.l (fun x => !x.meets f t) _ (Nat.le_refl _), List.take_length]; rfl
  have hke : ({ s with l := kept (fun _ x => !x.meets f t) s.l s.l.length } : Tl) = s.drop f t := by rw [← hk]; rfl
  obtain ⟨W1, hW1⟩ : ∃ W1, (w.alloc (.cells #[.int .i64 f] 3)).alloc (.cells #[.int .i64 t] 3) = W1 := ⟨_, rfl⟩
  have hsz : W1.heap.size = w.heap.size + 2 := by rw [← hW1]; simp
  have B1 : Below w.heap.size w W1 := by rw [← hW1]; exact ((Below.refl _ w).alloc (Nat.le_refl _) _).alloc (by simp) _
  have q1 : Blk W1 w.heap.size 3 #[.int .i64 f] := by rw [← hW1]; exact (Blk.new' _ _ (by simp)).alloc _
  have q2 : Blk W1 (w.heap.size + 1) 3 #[.int .i64 t] := by rw [← hW1]; exact Blk.new' _ _ (by simp)
  have hP : Picks 29 [.pointer (some ⟨w.heap.size, 0, none⟩), .pointer (some ⟨w.heap.size + 1, 0, none⟩)] b W1 s (fun _ x => !x.meets f t) := fun k x W hx ho =>
    drop1 x f t _ _ k W (h.ok.m x (List.mem_of_getElem? hx)) (q1.only ho (by omega)) (q2.only ho (by omega))
  have HK := Lib.hid (keep29 W1 b _ _ s _ (h.below B1) hP)
  have HKE := Lib.hid hke
  have HKK := Lib.hid hk
  have HW := Lib.hid hW1
  have HB := Lib.hid B1
  clear hk hke hP h q1 q2 hW1 B1
  go_enter Try.func17, Try.ntmps17
  go_wp2_with fail
  rw [HW.out]
  refine HK.out.mono ?_
  rintro r w1 ⟨rfl, T1, O1⟩
  go_wp2_with fail
  go_ret
  rw [HKE.out] at T1
  refine ⟨by rw [HKK.out]; rfl, T1, (Only.of_below HB.out).trans O1⟩

theorem dropAt_nil (w : World) (i : Int) : Calls Try.prog 18 #[.pointer none, .int .i64 i] w fun r w' => r = .returned (findV none) ∧ Below w.heap.size w w' := by
  have hput : putAt #[.int .i64 0, .int .i64 0, .int .i64 0, .bool false] 0 [.int .i64 0, .int .i64 0, .int .i64 0, .bool false] = #[.int .i64 0, .int .i64 0, .int .i64 0, .bool false] := rfl
  have hones : ones #[.int .i64 0, .int .i64 0, .int .i64 0, .bool false] = true := by simp [ones, Value.oneCell']
  go_enter Try.func18, Try.ntmps18
  go_wp2
  go_quiet (fail)
  go_wp2
  refine bodyPost_ret (results_cellTmp rfl _ _ rfl (run_loadVar_blk _ _ _ 30 30 _ _ 4 ((Blk.new' _ _ (by simp)).drewN _) Try.underlying30 rfl (by kernel_rfl) (by decide))) rfl ?_
  exact ⟨rfl, below_drewN (((Below.refl _ _).alloc (Nat.le_refl _) _).alloc (by simp) _) _⟩
theorem dropAt_no (w : World) (b : Nat) (n : Nat) (cs : Array Value) (i : Int) (h : Blk w b 50 cs) (hn : cs[257]? = some (.int .i64 n)) (hi : i < 0 ∨ n ≤ i) : Calls Try.prog 18 #[.pointer (some ⟨b, 0, none⟩), .int .i64 i] w fun r w' => r = .returned (findV none) ∧ Below w.heap.size w w' := by
  have hput : putAt #[.int .i64 0, .int .i64 0, .int .i64 0, .bool false] 0 [.int .i64 0, .int .i64 0, .int .i64 0, .bool false] = #[.int .i64 0, .int .i64 0, .int .i64 0, .bool false] := rfl
  have hones : ones #[.int .i64 0, .int .i64 0, .int .i64 0, .bool false] = true := by simp [ones, Value.oneCell']
  have c0 : w.cell? ⟨b, 257, none⟩ = some (.int .i64 n) := (h.cell 257).trans hn
  have hb := h.lt
  clear h hn
  by_cases h1 : i < 0
  · clear hi
    go_enter Try.func18, Try.ntmps18
    go_wp2
    go_quiet (fail)
    go_wp2
    refine bodyPost_ret (results_cellTmp rfl _ _ rfl (run_loadVar_blk _ _ _ 30 30 _ _ 4 ((Blk.new' _ _ (by simp)).drewN _) Try.underlying30 rfl (by kernel_rfl) (by decide))) rfl ?_
    exact ⟨rfl, below_drewN (((Below.refl _ _).alloc (Nat.le_refl _) _).alloc (by simp) _) _⟩
  · have h2 : n ≤ i := by omega
    have h3 : decide (i < 0) = false := by simpa using h1
    clear hi h1
    go_enter Try.func18, Try.ntmps18
    go_wp2
    go_quiet (fail)
    go_wp2
    refine bodyPost_ret (results_cellTmp rfl _ _ rfl (run_loadVar_blk _ _ _ 30 30 _ _ 4 ((Blk.new' _ _ (by simp)).drewN _) Try.underlying30 rfl (by kernel_rfl) (by decide))) rfl ?_
    exact ⟨rfl, below_drewN (((Below.refl _ _).alloc (Nat.le_refl _) _).alloc (by simp) _) _⟩

set_option maxRecDepth 100000 in
set_option maxHeartbeats 4000000 in
theorem dropAt_yes (w : World) (b i : Nat) (s : Tl) (h : TlAt w b s) (hi : i < s.l.length) : Calls Try.prog 18 #[.pointer (some ⟨b, 0, none⟩), .int .i64 i] w fun r w' =>
    r = .returned (findV (some s.l[i])) ∧ TlAt w' b { s with l := s.l.eraseIdx i } ∧ Only (· = b) w w' := by
  have hmf : ∀ (fn : Fn) (first cap : Array Value) (w : World), (Instr.makeFunc fn first cap).run Try.prog w = .ok (.func fn first cap) w := fun _ _ _ _ => rfl
  have hT := h
  obtain ⟨ok, cs, at0, hc, hs, hat, e1, e2, e3, hr⟩ := h
  have h64 : s.l.length ≤ 64 := Nat.le_trans ok.n ok.s2
  have hcl := hc.lt
  have c1 : w.cell? ⟨b, 257, none⟩ = some (.int .i64 s.l.length) := (hc.cell 257).trans e2
  have d1 : decide (s.l.length ≤ i) = false := by simpa using hi
  obtain ⟨x, hx⟩ : ∃ x, s.l[i] = x := ⟨_, rfl⟩
  rw [hx]
  have hext := hr i x (by rw [List.getElem?_eq_getElem hi, hx])
  obtain ⟨j, hj⟩ : ∃ j, j = (at0 + i) % 64 := ⟨_, rfl⟩
  have hj64 : j < 64 := by omega
  have hj0 : (0 : Int) ≤ (j : Int) := Int.natCast_nonneg _
  have hj1 : (j : Int) < 64 := by omega
  have hfit : j * 4 + 4 ≤ cs.size := by omega
  rw [← hj] at hext
  have hcall : ∀ W, Below w.heap.size w W → Calls Try.prog 27 #[.pointer (some ⟨b, 0, none⟩), .int .i64 i] W fun r w' => r = .returned (.int .i64 (j : Nat)) ∧ W = w' := fun W hW => by
    rw [hj]
    exact i_blk W b at0 i cs (hc.below hW hcl) e1 hat (by omega)
  have HI := Lib.hid hcall
  have HT := Lib.hid hT
  have HC := Lib.hid hc
  have HX := Lib.hid hx
  have HJ := Lib.hid hj
  clear hcall hT hx hj hc hs e1 e2 e3 hr ok
  go_enter Try.func18, Try.ntmps18
  go_wp2_with fail
  go_quiet (fail)
  go_wp2_with fail
  obtain ⟨W0, hW0⟩ : ∃ W0, (((w.alloc (.cells #[.int .i64 (i : Int)] 3)).alloc (.cells #[.int .i64 0, .int .i64 0, .int .i64 0, .bool false] 30)).drewN nq) = W0 := ⟨_, rfl⟩
  have hsz0 : W0.heap.size = w.heap.size + 2 := by rw [← hW0]; simp
  have B0 : Below w.heap.size w W0 := by rw [← hW0]; exact below_drewN (((Below.refl _ w).alloc (Nat.le_refl _) _).alloc (by simp) _) _
  have q3 : Blk W0 w.heap.size 3 #[.int .i64 (i : Int)] := by rw [← hW0]; exact ((Blk.new' _ _ (by simp)).alloc _).drewN _
  have q4 : Blk W0 (w.heap.size + 1) 30 #[.int .i64 0, .int .i64 0, .int .i64 0, .bool false] := by rw [← hW0]; exact (Blk.new' _ _ (by simp)).drewN _
  rw [hW0]
  have hc0 : Blk W0 b 50 cs := HC.out.below B0 hcl
  have r1 := hc0.rowOf
  have r2 := hc0.plain
  have hcl0 : b < W0.heap.size := by omega
  have k3 : W0.cell? ⟨w.heap.size, 0, none⟩ = some (.int .i64 (i : Int)) := q3.cell 0
  have l3 : w.heap.size < W0.heap.size := by omega
  have Q3 := Lib.hid q3
  have Q4 := Lib.hid q4
  have HB0 := Lib.hid B0
  have HZ := Lib.hid hsz0
  clear hW0 q3 q4 hc0 B0 c1 d1 hsz0
  go_region_with (go_at_call 27; refine (HI.out _ (by first | exact HB0.out.drew | exact (HB0.out.alloc HB0.out.size _).drew)).mono ?_; rintro r w5 ⟨rfl, rfl⟩)
  all_goals
    go_wp2_with fail
    obtain ⟨W1, hW1⟩ : ∃ W1, (W0.alloc (.cells x.cells.toArray 30)).drew = W1 := ⟨_, rfl⟩
    have hsz := HZ.out
    have hb1 : Below W0.heap.size W0 W1 := by rw [← hW1]; exact ((Below.refl _ _).alloc (Nat.le_refl _) _).drew
    have bx : Blk W1 W0.heap.size 30 x.cells.toArray := by rw [← hW1]; exact (Blk.new _ _ _).drew
    rw [hW1]
    have HW := Lib.hid hW1
    have hB1 := HB0.out.trans (hb1.mono HB0.out.size)
    have g3 := Q3.out.below hb1 Q3.out.lt
    have g4 := Q4.out.below hb1 Q4.out.lt
    have hT1 := HT.out.below hB1
    have hP : Picks 30 [.pointer (some ⟨w.heap.size, 0, none⟩)] b W1 s (fun k _ => decide ((k : Int) ≠ (i : Int))) := fun k x W hx ho =>
      at1 x i w.heap.size k W (g3.only ho (by omega))
    refine (keep30 W1 b w.heap.size s _ hT1 hP).mono ?_
    rintro r w2 ⟨rfl, T2, O2⟩
    rw [kept_erase s.l i _ (Nat.le_refl _), List.take_length] at T2
    have hW0b : W0.heap.size ≠ b := by omega
    have hwb : w.heap.size + 1 ≠ b := by omega
    have bx2 := bx.only O2 hW0b
    have g5 := g4.only O2 hwb
    have v1 := bx2.rowOf
    have v2 := bx2.plain
    have v3 := g5.rowOf
    have v4 := g5.plain
    have B2 := Lib.hid bx2
    have G5 := Lib.hid g5
    have HT2 := Lib.hid T2
    have HO2 := Lib.hid O2
    have HB1 := Lib.hid hB1
    clear hsz hb1 bx hW1 hB1 g3 g4 hT1 hP bx2 g5 T2 O2 r1 r2 k3
    go_wp2_with fail
    refine bodyPost_ret (results_cellTmp rfl _ _ rfl (run_loadVar_blk _ _ _ 30 30 _ _ 4 (G5.out.row_ _) Try.underlying30 rfl (by kernel_rfl) (Nat.le_refl 4))) rfl ?_
    exact ⟨rfl, HT2.out.only (S := (· = w.heap.size + 1)) ((Only.refl (· = w.heap.size + 1) w2).setRow (.inl rfl) _) (Ne.symm hwb), ((Only.of_below HB1.out).trans HO2.out).setRow (.inr (by omega)) _⟩
end Go.Proofs.Ytgmmnekepelomaa
