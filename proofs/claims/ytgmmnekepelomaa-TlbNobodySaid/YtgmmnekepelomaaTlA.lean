/- Tlb: translations, as plain data; end, may, i, Len, New and the reference's End, MayBe, meets, New. -/
import Derived.Test.YtgmmnekepelomaaL0
import Derived.Test.YtgmmnekepelomaaProg
namespace Go.Proofs.Ytgmmnekepelomaa
open Go.RowKit

/-- A translation. -/
structure Tr where
  p : Int
  f : Int
  m : Int
  h : Bool
deriving DecidableEq
instance : Inhabited Tr := ⟨⟨0, 0, 0, false⟩⟩
def Tr.cells (x : Tr) : List Value := [.int .i64 x.p, .int .i64 x.f, .int .i64 x.m, .bool x.h]
theorem tr_len (x : Tr) : x.cells.length = 4 := rfl
abbrev Tr.val (x : Tr) : Value := .agg x.cells.toArray
/-- May it be at hand? -/
def Tr.may (x : Tr) : Bool := decide (0 ≤ x.p ∧ x.p < 4096 ∧ 0 ≤ x.f ∧ x.f < 8192 ∧ (x.m = 1 ∨ x.m = 3) ∧ (x.h = true → x.p % 8 = 0))
/-- The page behind its last one. -/
def Tr.stop (x : Tr) : Int := if x.h then x.p + 8 else x.p + 1
/-- Has it a page of a range? -/
def Tr.meets (x : Tr) (a b : Int) : Bool := decide (a < b) && decide (x.p < b) && decide (a < x.stop)
theorem Tr.may_lo {x : Tr} (h : x.may = true) : 0 ≤ x.p := by unfold Tr.may at h; simp at h; omega
theorem Tr.may_hi {x : Tr} (h : x.may = true) : x.p < 4096 := by unfold Tr.may at h; simp at h; omega
theorem Tr.stop_gt (x : Tr) : x.p + 1 ≤ x.stop := by unfold Tr.stop; split <;> omega
theorem Tr.stop_le (x : Tr) : x.stop ≤ x.p + 8 := by unfold Tr.stop; split <;> omega

theorem end_f (x : Tr) (w : World) (h : x.may = true) : Calls Try.prog 25 #[x.val] w fun r w' => r = .returned (.int .i64 x.stop) ∧ Below w.heap.size w w' := by
  have h1 := Tr.may_lo h
  have h2 := Tr.may_hi h
  obtain ⟨p, f, m, h0⟩ := x
  simp only at h1 h2
  clear h
  unfold Tr.stop Tr.val Tr.cells
  cases h0
  all_goals
    go_enter Try.func25, Try.ntmps25
    go_wp2
    go_ret
    exact ⟨rfl, (Below.refl _ _).alloc (Nat.le_refl _) _⟩
theorem rEnd_f (x : Tr) (w : World) (h : x.may = true) : Calls Try.prog 13 #[x.val] w fun r w' => r = .returned (.int .i64 x.stop) ∧ Below w.heap.size w w' := by
  have h1 := Tr.may_lo h
  have h2 := Tr.may_hi h
  obtain ⟨p, f, m, h0⟩ := x
  simp only at h1 h2
  clear h
  unfold Tr.stop Tr.val Tr.cells
  cases h0
  all_goals
    go_enter Try.func13, Try.ntmps13
    go_wp2
    go_ret
    exact ⟨rfl, (Below.refl _ _).alloc (Nat.le_refl _) _⟩

set_option maxHeartbeats 1000000 in
theorem may_f (x : Tr) (w : World) : Calls Try.prog 26 #[x.val] w fun r w' => r = .returned (.bool x.may) ∧ Below w.heap.size w w' := by
  obtain ⟨m0, hm0⟩ : ∃ m0, x.may = m0 := ⟨_, rfl⟩
  rw [hm0]
  unfold Tr.may at hm0
  obtain ⟨p, f, m, h0⟩ := x
  simp only at hm0
  unfold Tr.val Tr.cells
  simp only
  by_cases h1 : 0 ≤ p
  · by_cases h2 : p < 4096
    · by_cases h3 : 0 ≤ f
      · by_cases h4 : f < 8192
        · by_cases h5 : m = 1
          · subst h5
            cases h0
            · obtain rfl : true = m0 := by rw [← hm0]; simp; omega
              clear hm0
              go_enter Try.func26, Try.ntmps26
              go_wp2
              go_ret
              exact ⟨rfl, (Below.refl _ _).alloc (Nat.le_refl _) _⟩
            · obtain rfl : (p % 8 == 0) = m0 := by rw [← hm0]; simp; rw [Bool.eq_iff_iff]; simp; omega
              clear hm0
              go_enter Try.func26, Try.ntmps26
              go_wp2
              go_ret
              exact ⟨rfl, (Below.refl _ _).alloc (Nat.le_refl _) _⟩
          · by_cases h6 : m = 3
            · subst h6
              clear h5
              cases h0
              · obtain rfl : true = m0 := by rw [← hm0]; simp; omega
                clear hm0
                go_enter Try.func26, Try.ntmps26
                go_wp2
                go_ret
                exact ⟨rfl, (Below.refl _ _).alloc (Nat.le_refl _) _⟩
              · obtain rfl : (p % 8 == 0) = m0 := by rw [← hm0]; simp; rw [Bool.eq_iff_iff]; simp; omega
                clear hm0
                go_enter Try.func26, Try.ntmps26
                go_wp2
                go_ret
                exact ⟨rfl, (Below.refl _ _).alloc (Nat.le_refl _) _⟩
            · obtain rfl : false = m0 := by rw [← hm0]; simp; omega
              have e5 : (m == 1) = false := by simpa using h5
              have e6 : (m == 3) = false := by simpa using h6
              clear hm0 h5 h6
              go_enter Try.func26, Try.ntmps26
              go_wp2
              go_ret
              exact ⟨rfl, (Below.refl _ _).alloc (Nat.le_refl _) _⟩
        · obtain rfl : false = m0 := by rw [← hm0]; simp; omega
          have e4 : decide (f < 8192) = false := by simpa using h4
          clear hm0 h4
          go_enter Try.func26, Try.ntmps26
          go_wp2
          go_ret
          exact ⟨rfl, (Below.refl _ _).alloc (Nat.le_refl _) _⟩
      · obtain rfl : false = m0 := by rw [← hm0]; simp; omega
        have e3 : decide (0 ≤ f) = false := by simpa using h3
        clear hm0 h3
        go_enter Try.func26, Try.ntmps26
        go_wp2
        go_ret
        exact ⟨rfl, (Below.refl _ _).alloc (Nat.le_refl _) _⟩
    · obtain rfl : false = m0 := by rw [← hm0]; simp; omega
      have e2 : decide (p < 4096) = false := by simpa using h2
      clear hm0 h2
      go_enter Try.func26, Try.ntmps26
      go_wp2
      go_ret
      exact ⟨rfl, (Below.refl _ _).alloc (Nat.le_refl _) _⟩
  · obtain rfl : false = m0 := by rw [← hm0]; simp; omega
    have e1 : decide (0 ≤ p) = false := by simpa using h1
    clear hm0 h1
    go_enter Try.func26, Try.ntmps26
    go_wp2
    go_ret
    exact ⟨rfl, (Below.refl _ _).alloc (Nat.le_refl _) _⟩
set_option maxHeartbeats 1000000 in
theorem rMay_f (x : Tr) (w : World) : Calls Try.prog 16 #[x.val] w fun r w' => r = .returned (.bool x.may) ∧ Below w.heap.size w w' := by
  obtain ⟨m0, hm0⟩ : ∃ m0, x.may = m0 := ⟨_, rfl⟩
  rw [hm0]
  unfold Tr.may at hm0
  obtain ⟨p, f, m, h0⟩ := x
  simp only at hm0
  unfold Tr.val Tr.cells
  simp only
  by_cases h1 : 0 ≤ p
  · by_cases h2 : p < 4096
    · by_cases h3 : 0 ≤ f
      · by_cases h4 : f < 8192
        · by_cases h5 : m = 1
          · subst h5
            cases h0
            · obtain rfl : true = m0 := by rw [← hm0]; simp; omega
              clear hm0
              go_enter Try.func16, Try.ntmps16
              go_wp2
              go_ret
              exact ⟨rfl, (Below.refl _ _).alloc (Nat.le_refl _) _⟩
            · obtain rfl : (p % 8 == 0) = m0 := by rw [← hm0]; simp; rw [Bool.eq_iff_iff]; simp; omega
              clear hm0
              go_enter Try.func16, Try.ntmps16
              go_wp2
              go_ret
              exact ⟨rfl, (Below.refl _ _).alloc (Nat.le_refl _) _⟩
          · by_cases h6 : m = 3
            · subst h6
              clear h5
              cases h0
              · obtain rfl : true = m0 := by rw [← hm0]; simp; omega
                clear hm0
                go_enter Try.func16, Try.ntmps16
                go_wp2
                go_ret
                exact ⟨rfl, (Below.refl _ _).alloc (Nat.le_refl _) _⟩
              · obtain rfl : (p % 8 == 0) = m0 := by rw [← hm0]; simp; rw [Bool.eq_iff_iff]; simp; omega
                clear hm0
                go_enter Try.func16, Try.ntmps16
                go_wp2
                go_ret
                exact ⟨rfl, (Below.refl _ _).alloc (Nat.le_refl _) _⟩
            · obtain rfl : false = m0 := by rw [← hm0]; simp; omega
              have e5 : (m != 1) = true := by simpa using h5
              have e6 : (m != 3) = true := by simpa using h6
              clear hm0 h5 h6
              go_enter Try.func16, Try.ntmps16
              go_wp2
              go_ret
              exact ⟨rfl, (Below.refl _ _).alloc (Nat.le_refl _) _⟩
        · obtain rfl : false = m0 := by rw [← hm0]; simp; omega
          have e4 : decide (8192 ≤ f) = true := by simpa using h4
          clear hm0 h4
          go_enter Try.func16, Try.ntmps16
          go_wp2
          go_ret
          exact ⟨rfl, (Below.refl _ _).alloc (Nat.le_refl _) _⟩
      · obtain rfl : false = m0 := by rw [← hm0]; simp; omega
        have e3 : decide (f < 0) = true := by simpa using h3
        clear hm0 h3
        go_enter Try.func16, Try.ntmps16
        go_wp2
        go_ret
        exact ⟨rfl, (Below.refl _ _).alloc (Nat.le_refl _) _⟩
    · obtain rfl : false = m0 := by rw [← hm0]; simp; omega
      have e2 : decide (4096 ≤ p) = true := by simpa using h2
      clear hm0 h2
      go_enter Try.func16, Try.ntmps16
      go_wp2
      go_ret
      exact ⟨rfl, (Below.refl _ _).alloc (Nat.le_refl _) _⟩
  · obtain rfl : false = m0 := by rw [← hm0]; simp; omega
    have e1 : decide (p < 0) = true := by simpa using h1
    clear hm0 h1
    go_enter Try.func16, Try.ntmps16
    go_wp2
    go_ret
    exact ⟨rfl, (Below.refl _ _).alloc (Nat.le_refl _) _⟩

/-! ### meets -/
theorem rMeets_f (x : Tr) (a b : Int) (w : World) (h : x.may = true) : Calls Try.prog 32 #[x.val, .int .i64 a, .int .i64 b] w fun r w' => r = .returned (.bool (x.meets a b)) ∧ Below w.heap.size w w' := by
  have hlo := Tr.may_lo h
  have hhi := Tr.may_hi h
  obtain ⟨sp, hsp⟩ : ∃ sp, x.stop = sp := ⟨_, rfl⟩
  obtain ⟨e0, he0⟩ : ∃ e0, x.meets a b = e0 := ⟨_, rfl⟩
  rw [he0]
  unfold Tr.meets at he0
  rw [hsp] at he0
  have hend : ∀ W, Calls Try.prog 13 #[x.val] W fun r w' => r = .returned (.int .i64 sp) ∧ Below W.heap.size W w' := fun W => by rw [← hsp]; exact rEnd_f x W h
  have HE := Lib.hid hend
  obtain ⟨p, f, m, h0⟩ := x
  simp only at hlo hhi he0 HE
  unfold Tr.val Tr.cells at *
  simp only at *
  clear hend hsp h
  by_cases h1 : a < b
  · by_cases h2 : p < b
    · obtain rfl : decide (a < sp) = e0 := by rw [← he0]; simp [h1, h2]
      clear he0
      go_enter Try.func32, Try.ntmps32
      go_wp2_with (go_at_call 13; refine (HE.out _).mono ?_; rintro r w1 ⟨rfl, B1⟩)
      go_ret
      exact ⟨rfl, ((Below.refl _ _).alloc (Nat.le_refl _) _).trans (B1.mono (by simp))⟩
    · have e2 : decide (p < b) = false := by simpa using h2
      obtain rfl : false = e0 := by rw [← he0]; simp [h2]
      clear he0 h2
      go_enter Try.func32, Try.ntmps32
      go_wp2
      go_ret
      exact ⟨rfl, (Below.refl _ _).alloc (Nat.le_refl _) _⟩
  · have e1 : decide (a < b) = false := by simpa using h1
    obtain rfl : false = e0 := by rw [← he0]; simp [h1]
    clear he0 h1
    go_enter Try.func32, Try.ntmps32
    go_wp2
    go_ret
    exact ⟨rfl, (Below.refl _ _).alloc (Nat.le_refl _) _⟩

/-! ### i, Len, New -/
theorem i_blk (w : World) (b at0 k : Nat) (cs : Array Value) (h : Blk w b 50 cs) (ha : cs[256]? = some (.int .i64 at0)) (h1 : at0 < 64) (h2 : k ≤ 64) :
    Calls Try.prog 27 #[.pointer (some ⟨b, 0, none⟩), .int .i64 k] w fun r w' => r = .returned (.int .i64 ((at0 + k) % 64 : Nat)) ∧ w = w' := by
  have c0 : w.cell? ⟨b, 256, none⟩ = some (.int .i64 at0) := (h.cell 256).trans ha
  clear h ha
  go_enter Try.func27, Try.ntmps27
  go_wp2
  go_ret
  exact ⟨by simp, rfl⟩
theorem len_nil (w : World) : Calls Try.prog 14 #[.pointer none] w fun r w' => r = .returned (.int .i64 0) ∧ w = w' := by
  go_enter Try.func14, Try.ntmps14
  go_wp2
  go_ret
  exact ⟨rfl, rfl⟩
theorem len_blk (w : World) (b : Nat) (n : Int) (cs : Array Value) (h : Blk w b 50 cs) (ha : cs[257]? = some (.int .i64 n)) :
    Calls Try.prog 14 #[.pointer (some ⟨b, 0, none⟩)] w fun r w' => r = .returned (.int .i64 n) ∧ w = w' := by
  have c0 : w.cell? ⟨b, 257, none⟩ = some (.int .i64 n) := (h.cell 257).trans ha
  clear h ha
  go_enter Try.func14, Try.ntmps14
  go_wp2
  go_ret
  exact ⟨rfl, rfl⟩
theorem new_no (w : World) (n : Int) (h : n < 1 ∨ 64 < n) : Calls Try.prog 20 #[.int .i64 n] w fun e w' => e = .returned (.tuple #[.pointer none, .int .i64 1]) ∧ w = w' := by
  by_cases h1 : n < 1
  · clear h
    go_enter Try.func20, Try.ntmps20
    go_wp2
    go_ret2
    exact ⟨rfl, rfl⟩
  · have h2 : 64 < n := by omega
    clear h
    go_enter Try.func20, Try.ntmps20
    go_wp2
    go_ret2
    exact ⟨rfl, rfl⟩
theorem rNew_no (w : World) (n : Int) (h : n < 1 ∨ 64 < n) : Calls Try.prog 21 #[.int .i64 n] w fun e w' => e = .returned (.tuple #[.pointer none, .int .i64 1]) ∧ w = w' := by
  by_cases h1 : n < 1
  · clear h
    go_enter Try.func21, Try.ntmps21
    go_wp2
    go_ret2
    exact ⟨rfl, rfl⟩
  · have h2 : 64 < n := by omega
    clear h
    go_enter Try.func21, Try.ntmps21
    go_wp2
    go_ret2
    exact ⟨rfl, rfl⟩
theorem rNew_yes (w : World) (n : Nat) (h : 1 ≤ n) (h2 : n ≤ 64) : Calls Try.prog 21 #[.int .i64 n] w fun e w' => e = .returned (.tuple #[.pointer (some ⟨w.heap.size, 0, none⟩), .int .i64 0]) ∧ w.alloc (.cells #[.int .i64 n, .slice none 0 0] 40) = w' := by
  go_enter Try.func21, Try.ntmps21
  go_wp2
  go_ret2
  exact ⟨rfl, rfl⟩
/-- The cells of a TLB that is zero. -/
def tlb0 : Array Value := ((List.replicate 64 (Tr.cells ⟨0, 0, 0, false⟩)).flatten ++ [Value.int .i64 0, Value.int .i64 0, Value.int .i64 0]).toArray
theorem tlb0_size : tlb0.size = 259 := by kernel_rfl
theorem tlb0_256 : tlb0[256]? = some (.int .i64 0) := by kernel_rfl
theorem tlb0_257 : tlb0[257]? = some (.int .i64 0) := by kernel_rfl
theorem tlb0_258 : tlb0[258]? = some (.int .i64 0) := by kernel_rfl
theorem zero50 (w : World) : (zeroValue 50).run Try.prog w = .ok (.agg tlb0) w := by kernel_rfl
attribute [local irreducible] tlb0
set_option maxRecDepth 100000 in
theorem new_yes (w : World) (n : Nat) (h : 1 ≤ n) (h2 : n ≤ 64) : Calls Try.prog 20 #[.int .i64 n] w fun e w' => e = .returned (.tuple #[.pointer (some ⟨w.heap.size, 0, none⟩), .int .i64 0]) ∧ w.alloc (.cells (tlb0.setIfInBounds 258 (.int .i64 n)) 50) = w' := by
  have hz := zero50
  have hs := tlb0_size
  go_enter Try.func20, Try.ntmps20
  go_wp2
  go_ret2
  exact ⟨rfl, rfl⟩
end Go.Proofs.Ytgmmnekepelomaa
