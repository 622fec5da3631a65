/- Script: items compared; awake. -/
import Derived.Test.YtccoafacbbkooaaGreatDoorScS
namespace Go.Proofs.YtccoafacbbkooaaGreatDoor
open Go.RowKit Go.Maps

theorem eqlItem (x y : Itm) (w : World) : (binOp .eql 29 (.agg x.arr) (.agg y.arr)).run Tryz.prog w = .ok (.bool (decide (x = y))) w := by
  have e : decide (x = y) = (x.kind == y.kind && (x.who == y.who && ((x.call.kind == y.call.kind && (x.call.page == y.call.page && (x.call.pages == y.call.pages && (x.call.perm == y.call.perm && ((x.call.pk == y.call.pk && x.call.pn == y.call.pn) && (x.call.addr == y.call.addr && x.call.byte == y.call.byte)))))) && ((x.jk == y.jk && (x.jp == y.jp && x.jn == y.jn)) && x.n == y.n)))) := by
    obtain ⟨a0, a1, ⟨a2, a3, a4, a5, a6, a7, a8, a9⟩, a10, a11, a12, a13⟩ := x
    obtain ⟨b0, b1, ⟨b2, b3, b4, b5, b6, b7, b8, b9⟩, b10, b11, b12, b13⟩ := y
    rw [Bool.eq_iff_iff]
    simp [and_assoc]
  rw [e]
  clear e
  unfold Itm.arr
  go_simp
  by_cases h0 : x.kind = y.kind
  rotate_left
  · rw [if_neg h0, show (x.kind == y.kind) = false by simpa using h0]
    rfl
  rw [if_pos h0, show (x.kind == y.kind) = true by simpa using h0, Bool.true_and]
  by_cases h1 : x.who = y.who
  rotate_left
  · rw [if_neg h1, show (x.who == y.who) = false by simpa using h1]
    rfl
  rw [if_pos h1, show (x.who == y.who) = true by simpa using h1, Bool.true_and]
  by_cases h2 : x.call.kind = y.call.kind
  rotate_left
  · rw [if_neg h2, show (x.call.kind == y.call.kind) = false by simpa using h2]
    rfl
  rw [if_pos h2, show (x.call.kind == y.call.kind) = true by simpa using h2, Bool.true_and]
  by_cases h3 : x.call.page = y.call.page
  rotate_left
  · rw [if_neg h3, show (x.call.page == y.call.page) = false by simpa using h3]
    rfl
  rw [if_pos h3, show (x.call.page == y.call.page) = true by simpa using h3, Bool.true_and]
  by_cases h4 : x.call.pages = y.call.pages
  rotate_left
  · rw [if_neg h4, show (x.call.pages == y.call.pages) = false by simpa using h4]
    rfl
  rw [if_pos h4, show (x.call.pages == y.call.pages) = true by simpa using h4, Bool.true_and]
  by_cases h5 : x.call.perm = y.call.perm
  rotate_left
  · rw [if_neg h5, show (x.call.perm == y.call.perm) = false by simpa using h5]
    rfl
  rw [if_pos h5, show (x.call.perm == y.call.perm) = true by simpa using h5, Bool.true_and]
  by_cases h6 : x.call.pk = y.call.pk
  rotate_left
  · rw [if_neg h6, show (x.call.pk == y.call.pk) = false by simpa using h6]
    rfl
  rw [if_pos h6, show (x.call.pk == y.call.pk) = true by simpa using h6, Bool.true_and]
  by_cases h7 : x.call.pn = y.call.pn
  rotate_left
  · rw [if_neg h7, show (x.call.pn == y.call.pn) = false by simpa using h7]
    rfl
  rw [if_pos h7, show (x.call.pn == y.call.pn) = true by simpa using h7, Bool.true_and]
  by_cases h8 : x.call.addr = y.call.addr
  rotate_left
  · rw [if_neg h8, show (x.call.addr == y.call.addr) = false by simpa using h8]
    rfl
  rw [if_pos h8, show (x.call.addr == y.call.addr) = true by simpa using h8, Bool.true_and]
  by_cases h9 : x.call.byte = y.call.byte
  rotate_left
  · rw [if_neg h9, show (x.call.byte == y.call.byte) = false by simpa using h9]
    rfl
  rw [if_pos h9, show (x.call.byte == y.call.byte) = true by simpa using h9, Bool.true_and]
  by_cases h10 : x.jk = y.jk
  rotate_left
  · rw [if_neg h10, show (x.jk == y.jk) = false by simpa using h10]
    rfl
  rw [if_pos h10, show (x.jk == y.jk) = true by simpa using h10, Bool.true_and]
  by_cases h11 : x.jp = y.jp
  rotate_left
  · rw [if_neg h11, show (x.jp == y.jp) = false by simpa using h11]
    rfl
  rw [if_pos h11, show (x.jp == y.jp) = true by simpa using h11, Bool.true_and]
  by_cases h12 : x.jn = y.jn
  rotate_left
  · rw [if_neg h12, show (x.jn == y.jn) = false by simpa using h12]
    rfl
  rw [if_pos h12, show (x.jn == y.jn) = true by simpa using h12, Bool.true_and]
  by_cases h13 : x.n = y.n
  rotate_left
  · rw [if_neg h13, show (x.n == y.n) = false by simpa using h13]
  rw [if_pos h13, show (x.n == y.n) = true by simpa using h13]
theorem Itm.cutArr (x : Itm) : cut x.arr 0 14 = x.arr := rfl
theorem Itm.fitsArr (x : Itm) : fits x.arr 0 14 = true := by unfold Itm.arr; simp only [fits14_0]
theorem Itm.sizeArr (x : Itm) : x.arr.size = 14 := by unfold Itm.arr; simp only [size14]
theorem Itm.onesArr (x : Itm) : ones x.arr = true := by unfold Itm.arr; rw [ones14]; rfl
theorem Itm.putArr (x y : Itm) : putAt y.arr 0 x.arr.toList = x.arr := rfl
theorem Itm.putZ (x : Itm) : putAt #[.int .i64 0, .int .i64 0, .int .i64 0, .int .i64 0, .int .i64 0, .int .i64 0, .int .i64 0, .int .i64 0, .int .i64 0, .int .i64 0, .int .i64 0, .int .i64 0, .int .i64 0, .int .i64 0] 0 x.arr.toList = x.arr := rfl
attribute [go_sem] Itm.cutArr Itm.fitsArr Itm.sizeArr Itm.onesArr Itm.putArr Itm.putZ
attribute [go_sem high] eqlItem

abbrev awk : Wd := [49, 32, 115, 116, 111, 114, 101, 32, 54, 52, 32, 55]
def awkI : Itm := { i0 with kind := 1, who := 1, call := { c0 with kind := 6, addr := 64, byte := 7 } }
theorem awk_read : readP (wordsL awk) = some awkI := by decide +kernel

set_option maxRecDepth 100000 in
set_option maxHeartbeats 2000000 in
theorem awake_w (w : World) (hm : MaxAt w) : Calls Tryz.prog 7 #[] w fun e w' => e = .returned (.bool true) ∧ Below w.heap.size w w' := by
  have hr := read_w w awk hm (by decide)
  rw [awk_read] at hr
  have e1 : resV (some awkI) = .tuple #[.agg #[.int .i64 1, .int .i64 1, .int .i64 6, .int .i64 0, .int .i64 0, .int .i64 0, .int .i64 0, .int .i64 0, .int .i64 64, .int .i64 7, .int .i64 0, .int .i64 0, .int .i64 0, .int .i64 0], .int .i64 0] := rfl
  have e2 : bs awk = { data := #[49, 32, 115, 116, 111, 114, 101, 32, 54, 52, 32, 55] } := rfl
  rw [e1, e2] at hr
  have HR := Lib.hid hr
  clear hr e1 e2
  go_enter Tryz.func7, Tryz.ntmps7
  go_wp2_with (go_at_call 8; refine (HR.out).mono ?_; rintro e w1 ⟨rfl, B⟩)
  go_ret
  exact ⟨rfl, B.alloc B.size _⟩

end Go.Proofs.YtccoafacbbkooaaGreatDoor
