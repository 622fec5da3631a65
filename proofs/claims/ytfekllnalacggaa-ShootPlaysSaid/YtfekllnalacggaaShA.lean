/- Shoot: what it keeps, as plain lists; how it lies in memory; core, Waiting, Last, New. -/
import Derived.Test.YtfekllnalacggaaL0
import Derived.Test.YtfekllnalacggaaProg
namespace Go.Proofs.Ytfekllnalacggaa
open Go.RowKit

structure Req where
  f : Int
  t : Int
def Req.cells (x : Req) : List Value := [.int .i64 x.f, .int .i64 x.t]
/-- A request and its generation. -/
def askC (g : Nat) (x : Req) : List Value := [.int .i64 (g : Int), .int .i64 x.f, .int .i64 x.t]
def flat (l : List Req) : List Value := l.flatMap Req.cells
theorem length_flat (l : List Req) : (flat l).length = l.length * 2 := by
  induction l with
  | nil => rfl
  | cons e l ih => simp only [flat, List.flatMap_cons, List.length_append, List.length_cons, Req.cells, List.length_nil] at *; omega
theorem flat_snoc (l : List Req) (e : Req) : flat (l ++ [e]) = flat l ++ e.cells := by simp [flat]

/-- All that was ever asked; of each core how much it has done. -/
structure Sh where
  l : List Req
  d : List Nat
structure Sh.ok (s : Sh) : Prop where
  c1 : 1 ≤ s.d.length
  c2 : s.d.length ≤ 64
  hd : ∀ k ∈ s.d, k ≤ s.l.length
/-- How much a core has done; all where there is no such core. -/
def Sh.did (s : Sh) (i : Int) : Nat := if 0 ≤ i ∧ i < s.d.length then s.d[i.toNat]?.getD 0 else s.l.length

/-- A queue: the requests from the k-th on. -/
def QAt (w : World) (q : Value) (l : List Req) (k : Nat) : Prop :=
  ∃ a c, q = .slice a (l.length - k) c ∧ l.length - k ≤ c ∧ ((a = none ∧ l.length ≤ k) ∨ ∃ g off cur, a = some ⟨g, off, none⟩ ∧ Blk w g 61 cur ∧ off + (l.length - k) * 3 ≤ cur.size ∧
    ∀ j x, l[j]? = some x → k ≤ j → ∀ u, u < 3 → cur[off + (j - k) * 3 + u]? = (askC (j + 1) x)[u]?)
theorem QAt.only {w w' : World} {q : Value} {l : List Req} {k : Nat} {S : Nat → Prop} (h : QAt w q l k) (ho : Only S w w') (hS : ∀ g cur, Blk w g 61 cur → ¬ S g) : QAt w' q l k := by
  obtain ⟨a, c, h1, h2, h3⟩ := h
  refine ⟨a, c, h1, h2, h3.imp id ?_⟩
  rintro ⟨g, off, cur, e1, e2, e3, e4⟩
  exact ⟨g, off, cur, e1, e2.only ho (hS g cur e2), e3, e4⟩
theorem QAt.empty_ (w : World) (l : List Req) : QAt w (.slice none 0 0) l l.length := ⟨_, 0, by rw [Nat.sub_self], by omega, .inl ⟨rfl, Nat.le_refl _⟩⟩

structure ShAt (w : World) (b e : Nat) (s : Sh) : Prop where
  ok : s.ok
  hb : Blk w b 46 #[.slice (some ⟨e, 0, none⟩) s.d.length s.d.length, .int .i64 s.l.length]
  he : ∃ cs : Array Value, Blk w e 58 cs ∧ cs.size = s.d.length ∧ ∀ (c k : Nat), s.d[c]? = some k → ∃ q, cs[c]? = some q ∧ QAt w q s.l k
theorem ShAt.only {w w' : World} {b e : Nat} {s : Sh} {S : Nat → Prop} (h : ShAt w b e s) (ho : Only S w w') (h1 : ¬ S b) (h2 : ¬ S e) (hS : ∀ g cur, Blk w g 61 cur → ¬ S g) : ShAt w' b e s := by
  obtain ⟨ok, hb, cs, hc, hs, hx⟩ := h
  refine ⟨ok, hb.only ho h1, cs, hc.only ho h2, hs, fun c k hk => ?_⟩
  obtain ⟨q, e1, e2⟩ := hx c k hk
  exact ⟨q, e1, e2.only ho hS⟩
theorem ShAt.below {w w' : World} {b e : Nat} {s : Sh} (h : ShAt w b e s) (hb : Below w.heap.size w w') : ShAt w' b e s :=
  h.only (S := fun _ => False) (Only.of_below hb) (fun h => h) (fun h => h) (fun _ _ _ h => h)
theorem ShAt.ne {w : World} {b e : Nat} {s : Sh} (h : ShAt w b e s) : b ≠ e := by
  obtain ⟨_, hb, cs, hc, _⟩ := h
  exact hb.ne_ hc (by decide)
theorem ShAt.e_lt {w : World} {b e : Nat} {s : Sh} (h : ShAt w b e s) : e < w.heap.size := by
  obtain ⟨_, hb, cs, hc, _⟩ := h
  exact hc.lt

/-! ### core -/
theorem core_nil (w : World) (i : Int) : Calls Try.prog 19 #[.pointer none, .int .i64 i] w fun r w' => r = .returned (.slice none 0 0) ∧ w = w' := by
  go_enter Try.func19, Try.ntmps19
  go_wp2
  go_ret
  exact ⟨rfl, rfl⟩
theorem core_out (w : World) (b : Nat) (a : Option Addr) (n c : Nat) (y : Value) (i : Int) (h : Blk w b 46 #[.slice a n c, y]) (hi : i < 0 ∨ (n : Int) ≤ i) :
    Calls Try.prog 19 #[.pointer (some ⟨b, 0, none⟩), .int .i64 i] w fun r w' => r = .returned (.slice none 0 0) ∧ w = w' := by
  have c0 : w.cell? ⟨b, 0, none⟩ = some (.slice a n c) := h.cell 0
  clear h
  by_cases h1 : i < 0
  · clear hi
    go_enter Try.func19, Try.ntmps19
    go_wp2
    go_ret
    exact ⟨rfl, rfl⟩
  · have h2 : (n : Int) ≤ i := by omega
    clear hi
    go_enter Try.func19, Try.ntmps19
    go_wp2
    go_ret
    exact ⟨rfl, rfl⟩
theorem core_in (w : World) (b e n i : Nat) (y q : Value) (cs : Array Value) (h : Blk w b 46 #[.slice (some ⟨e, 0, none⟩) n n, y]) (he : Blk w e 58 cs) (hi : i < n) (hq : cs[i]? = some q) :
    Calls Try.prog 19 #[.pointer (some ⟨b, 0, none⟩), .int .i64 i] w fun r w' => r = .returned q ∧ w = w' := by
  have c0 : w.cell? ⟨b, 0, none⟩ = some (.slice (some ⟨e, 0, none⟩) n n) := h.cell 0
  have c1 : w.cell? ⟨e, i, none⟩ = some q := (he.cell i).trans hq
  clear h he
  have h1 : decide (n ≤ i) = false := by simpa using hi
  go_enter Try.func19, Try.ntmps19
  go_wp2
  go_ret
  exact ⟨rfl, rfl⟩
theorem core_any (w : World) (b e : Nat) (s : Sh) (i : Int) (h : ShAt w b e s) :
    Calls Try.prog 19 #[.pointer (some ⟨b, 0, none⟩), .int .i64 i] w fun r w' => (∃ q, r = .returned q ∧ QAt w q s.l (s.did i)) ∧ w = w' := by
  obtain ⟨ok, hb, cs, hc, hs, hx⟩ := h
  unfold Sh.did
  by_cases hi : 0 ≤ i ∧ i < s.d.length
  · obtain ⟨k, rfl⟩ := Int.eq_ofNat_of_zero_le hi.1
    have hk : k < s.d.length := by omega
    obtain ⟨q, e1, e2⟩ := hx k _ (List.getElem?_eq_getElem hk)
    refine (core_in w b e _ k _ q cs hb hc hk e1).mono ?_
    rintro r w' ⟨rfl, rfl⟩
    refine ⟨⟨q, rfl, ?_⟩, rfl⟩
    rw [if_pos hi, Int.toNat_natCast, List.getElem?_eq_getElem hk]
    exact e2
  · refine (core_out w b _ _ _ _ i hb (by omega)).mono ?_
    rintro r w' ⟨rfl, rfl⟩
    rw [if_neg hi]
    exact ⟨⟨_, rfl, QAt.empty_ w s.l⟩, rfl⟩

/-! ### Waiting, Last, New -/
theorem waiting_any (w : World) (b e : Nat) (s : Sh) (i : Int) (h : ShAt w b e s) :
    Calls Try.prog 10 #[.pointer (some ⟨b, 0, none⟩), .int .i64 i] w fun r w' => r = .returned (.bool (decide (0 < s.l.length - s.did i))) ∧ w = w' := by
  have H := Lib.hid h; clear h
  go_enter Try.func10, Try.ntmps10
  go_wp2_with (go_at_call 19; refine (core_any _ _ _ _ _ H.out).mono ?_; rintro r w' ⟨⟨q, rfl, a, c, rfl, _⟩, rfl⟩)
  go_ret
  refine ⟨?_, rfl⟩
  simp
theorem waiting_nil (w : World) (i : Int) : Calls Try.prog 10 #[.pointer none, .int .i64 i] w fun r w' => r = .returned (.bool false) ∧ w = w' := by
  go_enter Try.func10, Try.ntmps10
  go_wp2_with (go_at_call 19; refine (core_nil _ _).mono ?_; rintro r w' ⟨rfl, rfl⟩)
  go_ret
  exact ⟨rfl, rfl⟩
theorem last_blk (w : World) (b : Nat) (x : Value) (k : Int) (h : Blk w b 46 #[x, .int .i64 k]) : Calls Try.prog 13 #[.pointer (some ⟨b, 0, none⟩)] w fun r w' => r = .returned (.int .i64 k) ∧ w = w' := by
  have c0 : w.cell? ⟨b, 1, none⟩ = some (.int .i64 k) := h.cell 1
  clear h
  go_enter Try.func13, Try.ntmps13
  go_wp2
  go_ret
  exact ⟨rfl, rfl⟩
theorem last_nil (w : World) : Calls Try.prog 13 #[.pointer none] w fun r w' => r = .returned (.int .i64 0) ∧ w = w' := by
  go_enter Try.func13, Try.ntmps13
  go_wp2
  go_ret
  exact ⟨rfl, rfl⟩
theorem new_no (w : World) (n : Int) (h : n < 1 ∨ 64 < n) : Calls Try.prog 17 #[.int .i64 n] w fun e w' => e = .returned (.tuple #[.pointer none, .int .i64 1]) ∧ w = w' := by
  by_cases h1 : n < 1
  · clear h
    go_enter Try.func17, Try.ntmps17
    go_wp2
    go_ret2
    exact ⟨rfl, rfl⟩
  · have h2 : 64 < n := by omega
    clear h
    go_enter Try.func17, Try.ntmps17
    go_wp2
    go_ret2
    exact ⟨rfl, rfl⟩
theorem rNew_no (w : World) (n : Int) (h : n < 1 ∨ 64 < n) : Calls Try.prog 18 #[.int .i64 n] w fun e w' => e = .returned (.tuple #[.pointer none, .int .i64 1]) ∧ w = w' := by
  by_cases h1 : n < 1
  · clear h
    go_enter Try.func18, Try.ntmps18
    go_wp2
    go_ret2
    exact ⟨rfl, rfl⟩
  · have h2 : 64 < n := by omega
    clear h
    go_enter Try.func18, Try.ntmps18
    go_wp2
    go_ret2
    exact ⟨rfl, rfl⟩
theorem info58 : (Try.prog.info? 58).map (fun i => (i.zero, i.size, i.bytes)) = some (some (.slice none 0 0), 1, 24) := by kernel_rfl
theorem info3 : (Try.prog.info? 3).map (fun i => (i.zero, i.size, i.bytes)) = some (some (.int .i64 0), 1, 8) := by kernel_rfl
theorem new_yes (w : World) (n : Nat) (h : 1 ≤ n) (h2 : n ≤ 64) : Calls Try.prog 17 #[.int .i64 n] w fun e w' => e = .returned (.tuple #[.pointer (some ⟨w.heap.size + 1, 0, none⟩), .int .i64 0]) ∧
    (w.alloc (.cells (madeCells #[.slice none 0 0] n) 58)).alloc (.cells #[.slice (some ⟨w.heap.size, 0, none⟩) n n, .int .i64 0] 46) = w' := by
  obtain ⟨i0, hi0, hz0, hz1, hz2⟩ := info_parts info58
  have hmk := fun w => run_make (P := Try.prog) w 44 58 i0 _ Try.underlying44 hi0 hz0 .i64 .i64 n n (by omega) (by omega) (by rw [hz2]; omega) (by omega)
  go_enter Try.func17, Try.ntmps17
  go_wp2
  go_ret2
  exact ⟨rfl, rfl⟩
theorem rNew_yes (w : World) (n : Nat) (h : 1 ≤ n) (h2 : n ≤ 64) : Calls Try.prog 18 #[.int .i64 n] w fun e w' => e = .returned (.tuple #[.pointer (some ⟨w.heap.size + 1, 0, none⟩), .int .i64 0]) ∧
    (w.alloc (.cells (madeCells #[.int .i64 0] n) 3)).alloc (.cells #[.slice none 0 0, .slice (some ⟨w.heap.size, 0, none⟩) n n] 31) = w' := by
  obtain ⟨i0, hi0, hz0, hz1, hz2⟩ := info_parts info3
  have hmk := fun w => run_make (P := Try.prog) w 29 3 i0 _ Try.underlying29 hi0 hz0 .i64 .i64 n n (by omega) (by omega) (by rw [hz2]; omega) (by omega)
  go_enter Try.func18, Try.ntmps18
  go_wp2
  go_ret2
  exact ⟨rfl, rfl⟩
end Go.Proofs.Ytfekllnalacggaa
