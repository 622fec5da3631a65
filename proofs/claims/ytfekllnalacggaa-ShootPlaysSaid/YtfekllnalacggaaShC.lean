/- Shoot: the reference's Handle and Pending. -/
import Derived.Test.YtfekllnalacggaaShB
import Derived.Deep.RegionHeld3
import Derived.Deep.RegionLaw
namespace Go.Proofs.Ytfekllnalacggaa
open Go.RowKit
attribute [local go_sem ↓] ld35 st35
attribute [local go_sem] run_ld35 run_st35

theorem req_ones (x : Req) : ones x.cells.toArray = true := by simp [ones, Req.cells, Value.oneCell']
theorem req_size (x : Req) : x.cells.toArray.size = 2 := rfl
theorem req_take (x : Req) : List.take 2 x.cells = x.cells := rfl
theorem req_extract (x : Req) : x.cells.toArray.extract 0 2 = x.cells.toArray := rfl
theorem putAt2 (x : Req) (a b : Value) : putAt #[a, b] 0 x.cells = x.cells.toArray := rfl
theorem req_len (x : Req) : x.cells.length = 2 := rfl
theorem flat_at : ∀ (l : List Req) (i : Nat) (h : i < l.length), ((flat l).drop (i * 2)).take 2 = l[i].cells
  | x :: l, 0, _ => by
    show (x.cells ++ flat l).take 2 = x.cells
    exact List.take_left' rfl
  | x :: l, i + 1, h => by
    have ih := flat_at l i (by simpa using h)
    rw [List.getElem_cons_succ, ← ih]
    show ((x.cells ++ flat l).drop ((i + 1) * 2)).take 2 = _
    rw [List.drop_append, List.drop_of_length_le (by rw [req_len]; omega), List.nil_append]
    congr 2
    rw [req_len]; omega
theorem own_req {w : World} {base : Nat} {v : Value} {l : List Req} (h : w.ownsRow base 35 2 v l.length (flat l)) {i : Nat} (hi : i < l.length) :
    ∃ g cap cur, v = .slice (some ⟨g, 0, none⟩) l.length cap ∧ Blk w g 35 cur ∧ cur.extract (i * 2) (i * 2 + 2) = l[i].cells.toArray ∧ i * 2 + 2 ≤ cur.size := by
  rcases h.2 with ⟨_, h0⟩ | ⟨g, cap, cur, rfl, _, hg, hc, _, hs, ht⟩
  · omega
  · have hfit : i * 2 + 2 ≤ cur.size := by rw [hs]; omega
    refine ⟨g, cap, cur, rfl, hg, ?_, hfit⟩
    apply Array.ext'
    have e := flat_at l i hi
    rw [← ht] at e
    simp only [Array.toList_extract, List.extract_eq_take_drop]
    rw [show i * 2 + 2 - i * 2 = 2 by omega]
    rw [← e, List.drop_take, List.take_take, show min 2 (l.length * 2 - i * 2) = 2 by omega]
theorem req_0 (x : Req) : x.cells[0]? = some (.int .i64 x.f) := rfl
theorem req_1 (x : Req) : x.cells[1]? = some (.int .i64 x.t) := rfl
attribute [local go_sem] req_0 req_1 req_ones req_size req_take req_extract putAt2 req_len

theorem rowOf_drewN_new (w : World) (n : Nat) (c : Array Value) (t : TypeId) (fz : Nat × Nat) : rowOf ((w.drewN n).alloc (.cells c t fz)) w.heap.size = c := rowOf_alloc_new (w.drewN n) c t fz
theorem plainRow_drewN_new (w : World) (n : Nat) (c : Array Value) (t : TypeId) : plainRow ((w.drewN n).alloc (.cells c t)) w.heap.size = true := plainRow_alloc_new (w.drewN n) c t
theorem setRow_drewN_new (w : World) (n : Nat) (c c' : Array Value) (t : TypeId) (fz : Nat × Nat) : ((w.drewN n).alloc (.cells c t fz)).setRow w.heap.size c' = (w.drewN n).alloc (.cells c' t fz) := setRow_alloc_new (w.drewN n) c c' t fz
attribute [local go_sem] rowOf_drewN_new plainRow_drewN_new setRow_drewN_new

/-- What Handle tells, and what is there behind it. -/
def handV : Option Req → Value
  | some x => .tuple #[.int .i64 x.f, .int .i64 x.t, .bool true]
  | none => .tuple #[.int .i64 0, .int .i64 0, .bool false]
def Sh.next (s : Sh) (i : Int) : Option Req := s.l[s.did i]?
def Sh.hand (s : Sh) (i : Int) : Sh := if s.did i < s.l.length then { s with d := s.d.set i.toNat (s.did i + 1) } else s

theorem results_tmp3 {fn : Func} {t u v : Tmp} (h : fn.results = #[.tmp t, .tmp u, .tmp v]) (tmps : Array Value) (P : Program) (w : World) :
    (results fn tmps).run P w = .ok (.tuple #[tmps.getD t undef, tmps.getD u undef, tmps.getD v undef]) w := by simp [results, h]

set_option maxRecDepth 100000 in
set_option maxHeartbeats 1000000 in
theorem rHandle (w : World) (base b ed : Nat) (v : Value) (s : Sh) (i : Int) (h : RefAt w base b ed v s) (hn : s.l.length < 9223372036854775807) :
    Calls Try.prog 21 #[.pointer (some ⟨b, 0, none⟩), .int .i64 i] w fun r w' => r = .returned (handV (s.next i)) ∧ RefAt w' base b ed v (s.hand i) ∧ Only (· = ed) w w' := by
  unfold Sh.next Sh.hand
  by_cases hd : s.did i < s.l.length
  · have hi : 0 ≤ i ∧ i < s.d.length := by
      by_cases h0 : 0 ≤ i ∧ i < s.d.length
      · exact h0
      · rw [Sh.did_out (by omega)] at hd; omega
    rw [if_pos hd, List.getElem?_eq_getElem hd]
    obtain ⟨k, rfl⟩ := Int.eq_ofNat_of_zero_le hi.1
    have hk : k < s.d.length := by omega
    have hw : decide (0 < s.l.length - s.did (k : Int)) = true := by simp; omega
    rw [Int.toNat_natCast]
    obtain ⟨g, cap, cur, rfl, hg, hcur, hfit⟩ := own_req h.hv hd
    have hlt := h.hb.lt
    have hlt2 := hg.lt
    have hlt3 := h.hd.lt
    have c0 : w.cell? ⟨b, 0, none⟩ = some (.slice (some ⟨g, 0, none⟩) s.l.length cap) := h.hb.cell 0
    have c1 : w.cell? ⟨b, 1, none⟩ = some (.slice (some ⟨ed, 0, none⟩) s.d.length s.d.length) := h.hb.cell 1
    have c2 : w.cell? ⟨ed, k, none⟩ = some (.int .i64 (s.did (k : Int) : Int)) := by rw [h.hd.cell, Sh.did_in hk]; simp [hk]
    have f2 : w.frozen? ⟨ed, k, none⟩ = false := h.hd.frozen k
    have r1 := hg.rowOf
    have r2 := hg.plain
    have hbd := h.hd.ne_ h.hb (by decide)
    have hgd := h.hd.ne_ hg (by decide)
    obtain ⟨m, hm⟩ : ∃ m, m = s.did (k : Int) := ⟨_, rfl⟩
    rw [← hm] at c2 hw hd
    simp only [← hm] at hcur hfit ⊢
    obtain ⟨x, hx⟩ : ∃ x, x = s.l[m] := ⟨_, rfl⟩
    rw [← hx] at hcur ⊢
    have hml : decide (s.l.length ≤ m) = false := by simpa using hd
    have H := Lib.hid h
    have HM := Lib.hid hm
    have HX := Lib.hid hx
    clear h hg hm hx hi
    go_enter Try.func21, Try.ntmps21
    go_wp2_with (go_at_call 23; refine (rWaiting _ _ _ _ _ _ _ H.out).mono ?_; rintro r w1 ⟨rfl, n1, rfl⟩; rw [← HM.out, hw])
    go_region_held3 (fun w' => w'.cell? ⟨b, 0, none⟩ = some (.slice (some ⟨g, 0, none⟩) s.l.length cap) ∧ w'.cell? ⟨b, 1, none⟩ = some (.slice (some ⟨ed, 0, none⟩) s.d.length s.d.length) ∧
        w'.cell? ⟨ed, k, none⟩ = some (.int .i64 m) ∧ rowOf w' g = cur ∧ plainRow w' g = true ∧ g < w'.heap.size) (first
        | (go_keep; done)
        | (refine ⟨?_, ?_, ?_, ?_, ?_, ?_⟩ <;> (first
            | (go_keep; done)
            | (simp only [rowOf_drew, rowOf_drewN, plainRow_drew, plainRow_drewN]; go_keep; done)
            | (rw [rowOf_alloc_past _ _ _ (by simp; omega)]; simp only [rowOf_drewN]; assumption)
            | (rw [plainRow_alloc_past _ _ _ (by simp; omega)]; simp only [plainRow_drewN]; assumption)
            | (simp; omega)))) (fail)
    obtain ⟨W3, hW3⟩ : ∃ W3, (w.drewN (n1 + 1)).alloc (.cells x.cells.toArray 35) = W3 := ⟨_, rfl⟩
    have O3 : Only (· = ed) w W3 := by rw [← hW3]; exact ((Only.refl _ w).drewN _).alloc _
    have R3 : RefAt W3 base b ed (.slice (some ⟨g, 0, none⟩) s.l.length cap) s := by
      rw [← hW3]; exact H.out.only (S := fun _ => False) (((Only.refl _ w).drewN _).alloc _) (fun h => h) (fun h => h) (fun _ _ h => h)
    have bx : Blk W3 w.heap.size 35 x.cells.toArray := by rw [← hW3]; exact Blk.new' _ _ rfl
    have d1 : W3.cell? ⟨b, 1, none⟩ = some (.slice (some ⟨ed, 0, none⟩) s.d.length s.d.length) := R3.hb.cell 1
    have d2 : W3.cell? ⟨ed, k, none⟩ = some (.int .i64 m) := by rw [R3.hd.cell, HM.out, Sh.did_in hk]; simp [hk]
    have d3 : W3.frozen? ⟨ed, k, none⟩ = false := R3.hd.frozen k
    have x0 : W3.cell? ⟨w.heap.size, 0, none⟩ = some (.int .i64 x.f) := bx.cell 0
    have x1 : W3.cell? ⟨w.heap.size, 1, none⟩ = some (.int .i64 x.t) := bx.cell 1
    have hew : w.heap.size ≠ ed := by omega
    rw [hW3]
    have HR := Lib.hid R3
    clear R3 bx hW3 r1 r2 hcur hfit c0 c1 c2 f2
    go_wp2
    go_quiet (fail)
    go_wp2
    refine bodyPost_ret (results_tmp3 rfl _ _ _) rfl ?_
    have hset : Only (· = ed) W3 (W3.setCell ⟨ed, k, none⟩ (.int .i64 ((m : Int) + 1))) := (Only.refl (· = ed) W3).setCell (p := ⟨ed, k, none⟩) (.inl rfl) _
    refine ⟨rfl, ⟨by rw [List.length_set]; exact (HR.out.hb.far (p := ⟨ed, k, none⟩) (Ne.symm hbd) _).drewN _, own_only HR.out.hv (hset.drewN _) (fun j hj e => ?_), ?_⟩, (O3.trans hset).drewN _⟩
    · simp only [Value.ownBlock, Option.some.injEq] at hj
      exact hgd (by rw [← e, ← hj])
    · have h9 := (HR.out.hd.set_ k (.int .i64 ((m : Int) + 1))).drewN nq
      simpa using h9
  · rw [if_neg hd, List.getElem?_eq_none (by omega)]
    have hw : decide (0 < s.l.length - s.did i) = false := by simp; omega
    have H := Lib.hid h; clear h
    go_enter Try.func21, Try.ntmps21
    go_wp2_with (go_at_call 23; refine (rWaiting _ _ _ _ _ _ _ H.out).mono ?_; rintro r w1 ⟨rfl, n1, rfl⟩; rw [hw])
    refine bodyPost_ret (results_tmp3 rfl _ _ _) rfl ?_
    refine ⟨rfl, H.out.only (S := fun _ => False) ((Only.refl _ w).drewN n1) (fun h => h) (fun h => h) (fun _ _ h => h), (Only.refl _ w).drewN n1⟩
end Go.Proofs.Ytfekllnalacggaa
