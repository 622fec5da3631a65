/- Combine: Index, Next, New. -/
import Derived.Test.YtaibhhppdmncfaaCbB
namespace Go.Proofs.Ytaibhhppdmncfaa
open Go.RowKit Go.Maps

theorem find_slot {l : List Sl} {i : Nat} : l.find? (fun x => (x.core : Int) == (i : Int)) = slotAt l i := by
  unfold slotAt
  congr 1
  funext x
  rw [Bool.eq_iff_iff, beq_iff_eq, beq_iff_eq]
  omega
theorem find_neg {l : List Sl} {i : Int} (h : i < 0) : l.find? (fun x => (x.core : Int) == i) = none := by
  rw [List.find?_eq_none]
  intro x _ hc
  simp at hc
  omega
theorem slotAt_core {l : List Sl} {i : Nat} {x : Sl} (h : slotAt l i = some x) : x ∈ l ∧ x.core = i := by
  unfold slotAt at h
  exact ⟨List.mem_of_find?_eq_some h, by simpa using List.find?_some h⟩
theorem srt_inj {l : List Sl} (h : l.Pairwise (fun a b => a.core < b.core)) {x y : Sl} (hx : x ∈ l) (hy : y ∈ l) (e : x.core = y.core) : x = y := by
  induction l with
  | nil => cases hx
  | cons a l ih =>
    have h' := List.pairwise_cons.1 h
    rcases List.mem_cons.1 hx with rfl | hx
    · rcases List.mem_cons.1 hy with rfl | hy
      · rfl
      · have := h'.1 y hy; omega
    · rcases List.mem_cons.1 hy with hy0 | hy
      · have := h'.1 x hx; rw [← hy0] at this; omega
      · exact ih h'.2 hx hy
theorem slotAt_mem {l : List Sl} (h : l.Pairwise (fun a b => a.core < b.core)) {x : Sl} (hx : x ∈ l) : slotAt l x.core = some x := by
  cases hs : slotAt l x.core with
  | none =>
    unfold slotAt at hs
    exact absurd (beq_self_eq_true x.core) (List.find?_eq_none.1 hs x hx)
  | some y =>
    have hy := slotAt_core hs
    rw [srt_inj h hx hy.1 hy.2.symm]

theorem zero49 (w : World) : (zeroValue 49).run Try.prog w = .ok (Sl.val default) w := by kernel_rfl
theorem und3 : Try.prog.underlying 3 = some (.int .i64) := by kernel_rfl
theorem und59 : Try.prog.underlying 59 = some (.map 3 49) := by kernel_rfl
theorem map_look {w : World} {m : Nat} {l : List Sl} (h : MapAt Try.prog 3 w m (slotG l)) (i : Int) (h1 : -9223372036854775808 ≤ i) (h2 : i ≤ 9223372036854775807) :
    (Instr.lookup 59 (.map (some m)) (.int .i64 i) false).run Try.prog w = .ok ((l.find? (fun x => (x.core : Int) == i)).getD default).val w ∧
    (Instr.lookup 59 (.map (some m)) (.int .i64 i) true).run Try.prog w = .ok (.tuple #[((l.find? (fun x => (x.core : Int) == i)).getD default).val, .bool (l.find? (fun x => (x.core : Int) == i)).isSome]) w := by
  by_cases h0 : 0 ≤ i
  · obtain ⟨k, rfl⟩ := Int.eq_ofNat_of_zero_le h0
    have := h.look und3 und59 (zero49 w) k (by omega)
    rw [find_slot]
    unfold slotG at this
    cases hs : slotAt l k with
    | none => rw [hs] at this; exact this
    | some x => rw [hs] at this; exact this
  · rw [find_neg (by omega)]
    exact h.look_neg und3 und59 (zero49 w) i (by omega) h1

@[go_sem] theorem run_field49_3 (a0 a1 a2 a3 a4 a5 a6 a7 a8 a9 a10 a11 : Value) (w : World) : (Instr.field 49 (.agg #[a0, a1, a2, a3, a4, a5, a6, a7, a8, a9, a10, a11]) 3).run Try.prog w = .ok a10 w := by kernel_rfl
@[go_sem] theorem run_field49_4 (a0 a1 a2 a3 a4 a5 a6 a7 a8 a9 a10 a11 : Value) (w : World) : (Instr.field 49 (.agg #[a0, a1, a2, a3, a4, a5, a6, a7, a8, a9, a10, a11]) 4).run Try.prog w = .ok a11 w := by kernel_rfl
@[go_sem] theorem run_field49_1 (a0 a1 a2 a3 a4 a5 a6 a7 a8 a9 a10 a11 : Value) (w : World) : (Instr.field 49 (.agg #[a0, a1, a2, a3, a4, a5, a6, a7, a8, a9, a10, a11]) 1).run Try.prog w = .ok (.agg #[a1, a2, a3, a4, a5, a6, a7, a8]) w := by kernel_rfl
@[go_sem] theorem run_build49 (a0 a1 a2 a3 a4 a5 a6 a7 a8 : Value) (w : World) (h : a0.oneCell' = true) : (Instr.build 49 #[(0, a0), (1, .agg #[a1, a2, a3, a4, a5, a6, a7, a8])]).run Try.prog w = .ok (.agg #[a0, a1, a2, a3, a4, a5, a6, a7, a8, .bool false, .bool false, .int .i64 0]) w := by
  cases a0 <;> first | (simp [Value.oneCell'] at h; done) | kernel_rfl
@[go_sem] theorem run_build37 (a0 a1 a2 a3 a4 a5 a6 a7 a8 : Value) (w : World) (h : a0.oneCell' = true) : (Instr.build 37 #[(0, .agg #[a1, a2, a3, a4, a5, a6, a7, a8]), (1, a0)]).run Try.prog w = .ok (.agg #[a1, a2, a3, a4, a5, a6, a7, a8, a0]) w := by
  cases a0 <;> first | (simp [Value.oneCell'] at h; done) | kernel_rfl
@[go_sem] theorem run_build37_0 (w : World) : (Instr.build 37 #[]).run Try.prog w = .ok (.agg #[.int .i64 0, .int .i64 0, .int .i64 0, .int .i64 0, .int .i64 0, .int .i64 0, .int .i64 0, .int .i64 0, .int .i64 0]) w := by kernel_rfl
def Sl.arr (x : Sl) : Array Value := #[.int .i64 (x.core : Int), .int .i64 x.x.kind, .int .i64 x.x.page, .int .i64 x.x.pages, .int .i64 x.x.perm, .int .i64 x.x.pk, .int .i64 x.x.pn, .int .i64 x.x.addr, .int .i64 x.x.byte, .bool x.taken, .bool x.told, .int .i64 x.index]

theorem index_no (w : World) (p : Option Addr) (i : Int) (h : Calls Try.prog 23 #[.pointer p] w fun r w' => r = .returned (.bool false) ∧ w = w') : Calls Try.prog 17 #[.pointer p, .int .i64 i] w fun r w' => r = .returned (.tuple #[.int .i64 0, .bool false]) ∧ w = w' := by
  have H := Lib.hid h; clear h
  go_enter Try.func17, Try.ntmps17
  go_wp2_with (go_at_call 23; refine (H.out).mono ?_; rintro r w' ⟨rfl, rfl⟩)
  go_ret2
  exact ⟨rfl, rfl⟩
theorem index_at (w : World) (b m : Nat) (s : Cb) (i : Int) (h : CbAt w b m s) (h1 : -9223372036854775808 ≤ i) (h2 : i ≤ 9223372036854775807) :
    Calls Try.prog 17 #[.pointer (some ⟨b, 0, none⟩), .int .i64 i] w fun r w' => r = .returned (indexV s.l i) ∧ w = w' := by
  have H := Lib.hid (is_at w b m s h)
  have hl := (map_look h.hm i h1 h2).1
  obtain ⟨ok, ⟨q, hb, _⟩, _⟩ := h
  have c3 : w.cell? ⟨b, 3, none⟩ = some (.map (some m)) := hb.cell 3
  unfold indexV
  have hd : (default : Sl).told = false := rfl
  cases hf : s.l.find? (fun x => (x.core : Int) == i) with
  | none =>
    rw [hf] at hl
    have hl' : (Instr.lookup 59 (.map (some m)) (.int .i64 i) false).run Try.prog w = .ok (.agg #[.int .i64 0, .int .i64 0, .int .i64 0, .int .i64 0, .int .i64 0, .int .i64 0, .int .i64 0, .int .i64 0, .int .i64 0, .bool false, .bool false, .int .i64 0]) w := hl
    clear ok hb hl hf hd
    go_enter Try.func17, Try.ntmps17
    go_wp2_with (go_at_call 23; refine (H.out).mono ?_; rintro r w' ⟨rfl, rfl⟩)
    go_ret2
    exact ⟨rfl, rfl⟩
  | some x =>
    rw [hf] at hl
    obtain ⟨co, ⟨k1, k2, k3, k4, k5, k6, k7, k8⟩, tk, td, ix⟩ := x
    have hl' : (Instr.lookup 59 (.map (some m)) (.int .i64 i) false).run Try.prog w = .ok (.agg #[.int .i64 (co : Int), .int .i64 k1, .int .i64 k2, .int .i64 k3, .int .i64 k4, .int .i64 k5, .int .i64 k6, .int .i64 k7, .int .i64 k8, .bool tk, .bool td, .int .i64 ix]) w := hl
    clear ok hb hl hf hd
    simp only
    cases td
    all_goals
      go_enter Try.func17, Try.ntmps17
      go_wp2_with (go_at_call 23; refine (H.out).mono ?_; rintro r w' ⟨rfl, rfl⟩)
      go_ret2
      exact ⟨rfl, rfl⟩
end Go.Proofs.Ytaibhhppdmncfaa
