/- Shoot: the reference. -/
import Derived.Test.YtfekllnalacggaaShA
import Derived.Deep.RegionWith
import Derived.Deep.AppendLies
namespace Go.Proofs.Ytfekllnalacggaa
open Go.RowKit

theorem ld35 (v : Value) : Instr.loadAt 35 v = ldAgg 35 v := rfl
theorem st35 (v x : Value) : Instr.storeAt 35 v x = stAgg 35 v x := rfl
theorem run_ld35 (w : World) (g off : Nat) (hp : plainRow w g = true) (hfit : off + 2 ≤ (rowOf w g).size) :
    (ldAgg 35 (.pointer (some ⟨g, off, none⟩))).run Try.prog w = .ok (.agg ((rowOf w g).extract off (off + 2))) w :=
  run_loadAt_row w g off 2 35 _ Try.underlying35 rfl (by kernel_rfl) hp hfit
theorem run_st35 (w : World) (g off : Nat) (vs : Array Value) (hp : plainRow w g = true) (hs : vs.size = 2) (h1 : ones vs = true) (hfit : off + 2 ≤ (rowOf w g).size) :
    (stAgg 35 (.pointer (some ⟨g, off, none⟩)) (.agg vs)).run Try.prog w = .ok () (w.setRow g (putAt (rowOf w g) off vs.toList)) :=
  run_storeAt_row w g off 2 35 vs (by kernel_rfl) hp hs h1 hfit
attribute [local go_sem ↓] ld35 st35
attribute [local go_sem] run_ld35 run_st35

structure RefAt (w : World) (base b ed : Nat) (v : Value) (s : Sh) : Prop where
  hb : Blk w b 31 #[v, .slice (some ⟨ed, 0, none⟩) s.d.length s.d.length]
  hv : w.ownsRow base 35 2 v s.l.length (flat s.l)
  hd : Blk w ed 3 (s.d.map fun (k : Nat) => Value.int .i64 (k : Int)).toArray
theorem RefAt.only {w w' : World} {base b ed : Nat} {v : Value} {s : Sh} {S : Nat → Prop} (h : RefAt w base b ed v s) (ho : Only S w w') (h1 : ¬ S b) (h2 : ¬ S ed) (h3 : ∀ k, v.ownBlock = some k → ¬ S k) : RefAt w' base b ed v s :=
  ⟨h.hb.only ho h1, own_only h.hv ho h3, h.hd.only ho h2⟩
theorem RefAt.below {w w' : World} {base b ed : Nat} {v : Value} {s : Sh} (h : RefAt w base b ed v s) (hb : Below w.heap.size w w') : RefAt w' base b ed v s :=
  h.only (S := fun _ => False) (Only.of_below hb) (fun h => h) (fun h => h) (fun _ _ h => h)
theorem own_form {w : World} {base : Nat} {e : TypeId} {size n : Nat} {v : Value} {xs : List Value} (h : w.ownsRow base e size v n xs) : ∃ a c, v = .slice a n c := by
  rcases h.2 with ⟨hv, h0⟩ | ⟨g, c, cur, hv, _⟩
  · exact ⟨none, 0, by rw [hv, h0]⟩
  · exact ⟨_, c, hv⟩

theorem Sh.did_in {s : Sh} {i : Nat} (h : i < s.d.length) : s.did i = s.d[i] := by
  unfold Sh.did
  rw [if_pos ⟨by omega, by omega⟩, Int.toNat_natCast, List.getElem?_eq_getElem h]
  rfl
theorem Sh.did_out {s : Sh} {i : Int} (h : i < 0 ∨ (s.d.length : Int) ≤ i) : s.did i = s.l.length := by
  unfold Sh.did
  rw [if_neg (by omega)]

theorem rWaiting (w : World) (base b ed : Nat) (v : Value) (s : Sh) (i : Int) (h : RefAt w base b ed v s) :
    Calls Try.prog 23 #[.pointer (some ⟨b, 0, none⟩), .int .i64 i] w fun r w' => r = .returned (.bool (decide (0 < s.l.length - s.did i))) ∧ ∃ n, w.drewN n = w' := by
  obtain ⟨hb, hv, hd⟩ := h
  obtain ⟨a, c, rfl⟩ := own_form hv
  have c0 : w.cell? ⟨b, 0, none⟩ = some (.slice a s.l.length c) := hb.cell 0
  have c1 : w.cell? ⟨b, 1, none⟩ = some (.slice (some ⟨ed, 0, none⟩) s.d.length s.d.length) := hb.cell 1
  by_cases hi : 0 ≤ i ∧ i < s.d.length
  · obtain ⟨k, rfl⟩ := Int.eq_ofNat_of_zero_le hi.1
    have hk : k < s.d.length := by omega
    have hk2 : decide (s.d.length ≤ k) = false := by simpa using hk
    have c2 : w.cell? ⟨ed, k, none⟩ = some (.int .i64 (s.d[k] : Int)) := by rw [hd.cell]; simp [hk]
    rw [Sh.did_in hk]
    obtain ⟨m, hm⟩ : ∃ m, s.d[k] = m := ⟨_, rfl⟩
    rw [hm] at c2 ⊢
    clear hm hb hv hd hi
    go_enter Try.func23, Try.ntmps23
    go_wp2
    go_quiet (fail)
    go_wp2
    go_ret
    refine ⟨?_, _, rfl⟩
    simp
    omega
  · rw [Sh.did_out (by omega)]
    by_cases h0 : 0 ≤ i
    · have h1 : decide (i < (s.d.length : Int)) = false := by simp; omega
      clear hb hv hd hi
      go_enter Try.func23, Try.ntmps23
      go_wp2
      go_quiet (fail)
      go_wp2
      go_ret
      refine ⟨?_, _, rfl⟩
      simp
    · have h1 : decide (0 ≤ i) = false := by simpa using h0
      clear hb hv hd hi h0
      go_enter Try.func23, Try.ntmps23
      go_wp2
      go_quiet (fail)
      go_wp2
      go_ret
      refine ⟨?_, _, rfl⟩
      simp

/-- What Post tells, and what is there behind it. -/
def Sh.can (f t : Int) : Prop := 0 ≤ f ∧ f < t ∧ t ≤ 4096
instance (f t : Int) : Decidable (Sh.can f t) := by unfold Sh.can; infer_instance
def Sh.post (s : Sh) (f t : Int) : Sh := if Sh.can f t then { s with l := s.l ++ [⟨f, t⟩] } else s
def Sh.postV (s : Sh) (f t : Int) : Value := if Sh.can f t then .tuple #[.int .i64 ((s.l.length + 1 : Nat) : Int), .int .i64 0] else .tuple #[.int .i64 0, .int .i64 1]

theorem rPost_no (w : World) (p : Value) (f t : Int) (h : ¬ Sh.can f t) : Calls Try.prog 20 #[p, .int .i64 f, .int .i64 t] w fun r w' => r = .returned (.tuple #[.int .i64 0, .int .i64 1]) ∧ w = w' := by
  unfold Sh.can at h
  by_cases h1 : f < 0
  · clear h
    go_enter Try.func20, Try.ntmps20
    go_wp2
    go_ret2
    exact ⟨rfl, rfl⟩
  · by_cases h2 : t ≤ f
    · clear h
      go_enter Try.func20, Try.ntmps20
      go_wp2
      go_ret2
      exact ⟨rfl, rfl⟩
    · have h3 : 4096 < t := by omega
      clear h
      go_enter Try.func20, Try.ntmps20
      go_wp2
      go_ret2
      exact ⟨rfl, rfl⟩
theorem info35 : (Try.prog.info? 35).map (fun i => (i.zero, i.size, i.bytes)) = some (some (.agg #[.int .i64 0, .int .i64 0]), 2, 16) := by kernel_rfl
theorem own_blk_ne' {w : World} {base : Nat} {e : TypeId} {size n : Nat} {v : Value} {xs : List Value} {g : Nat} {t : TypeId} {cs : Array Value} (h : w.ownsRow base e size v n xs) (hg : Blk w g t cs) (hne : e ≠ t) : ∀ k, v.ownBlock = some k → k ≠ g := fun k hk e1 => own_blk_ne h hg hne (by rw [hk, e1])

set_option maxRecDepth 100000 in
theorem rPost_yes (w : World) (base b ed : Nat) (v : Value) (s : Sh) (f t : Int) (h : RefAt w base b ed v s) (hbase : base ≤ w.heap.size) (hc : Sh.can f t) (hn : s.l.length + 1 ≤ maxLen) (hby : (s.l.length + 1) * 16 ≤ 140737488355328) :
    Calls Try.prog 20 #[.pointer (some ⟨b, 0, none⟩), .int .i64 f, .int .i64 t] w fun r w' => r = .returned (.tuple #[.int .i64 ((s.l.length + 1 : Nat) : Int), .int .i64 0]) ∧
      ∃ v', RefAt w' base b ed v' { s with l := s.l ++ [⟨f, t⟩] } ∧ Only (fun j => j = b ∨ v.ownBlock = some j) w w' := by
  obtain ⟨i0, hi0, hz0, hz1, hz2⟩ := info_parts info35
  obtain ⟨hb, hv, hd⟩ := h
  have hlt := hb.lt
  have hne := own_blk_ne hv hb (by decide)
  obtain ⟨a, c, rfl⟩ := own_form hv
  have c0 : w.cell? ⟨b, 0, none⟩ = some (.slice a s.l.length c) := hb.cell 0
  have h1 := hc.1
  have h2 : decide (t ≤ f) = false := by have := hc.2.1; simp; omega
  have h3 : decide (4096 < t) = false := by have := hc.2.2; simp; omega
  have h4 : decide (f < 0) = false := by simp; omega
  have HB := Lib.hid hb
  have HV := Lib.hid hv
  have HD := Lib.hid hd
  clear hc hb hv hd
  go_enter Try.func20, Try.ntmps20
  go_wp2_with
    ((at_builtin; refine wpList_append_lies _ rfl _ _ 28 rfl base 35 i0 _ 2 16 Try.underlying28 hi0 hz0 hz1 hz2 rfl (by decide) (.slice a s.l.length c) s.l.length (flat s.l) rfl (HV.out.alloc _) ⟨w.heap.size, 0, none⟩ 1 1 [.int .i64 f, .int .i64 t] rfl rfl (cell_two_new _ _ _ _) (fun x hx => by simp at hx; rcases hx with rfl | rfl <;> rfl) (by decide) hn hby (by simp; omega) (w.heap.size + 1) (by simp) ?_; intro gg cap w1 hown1 hgrow hat hlt1;
      have hbx : Blk w1 b 31 #[.slice a s.l.length c, .slice (some ⟨ed, 0, none⟩) s.d.length s.d.length] := (HB.out.alloc (.cells #[.int .i64 f, .int .i64 t] 35)).grown hgrow (Ne.symm hne);
      have e2 : w1.cell? ⟨b, 0, none⟩ = some (.slice a s.l.length c) := hbx.cell 0;
      have e3 : w1.frozen? ⟨b, 0, none⟩ = false := hbx.frozen 0))
  go_ret2
  have hdb := HD.out.ne_ HB.out (by decide)
  refine ⟨by simp, _, ⟨hbx.set_ 0 _, ?_, ?_⟩, (((Only.refl _ w).alloc _).grown hgrow (fun j hj => .inl (.inr hj))).setCell (.inl (.inl rfl)) _⟩
  · have e4 : flat (s.l ++ [⟨f, t⟩]) = flat s.l ++ [.int .i64 f, .int .i64 t] := flat_snoc _ _
    have e5 : (s.l ++ [(⟨f, t⟩ : Req)]).length = s.l.length + 1 := by simp
    simp only [e4, e5]
    refine own_only (S := (· = b)) hown1 ((Only.refl (· = b) w1).setCell (p := ⟨b, 0, none⟩) (.inl rfl) _) (fun j hj e => ?_)
    simp only [Value.ownBlock, Option.some.injEq] at hj
    subst e
    subst hj
    rcases hat with hh | hh
    · exact hne hh
    · omega
  · refine ((HD.out.alloc _).grown hgrow (fun e => ?_)).far (p := ⟨b, 0, none⟩) hdb _
    exact own_blk_ne HV.out HD.out (by decide) e.symm

theorem rPost (w : World) (base b ed : Nat) (v : Value) (s : Sh) (f t : Int) (h : RefAt w base b ed v s) (hbase : base ≤ w.heap.size) (hn : s.l.length + 1 ≤ maxLen) (hby : (s.l.length + 1) * 16 ≤ 140737488355328) :
    Calls Try.prog 20 #[.pointer (some ⟨b, 0, none⟩), .int .i64 f, .int .i64 t] w fun r w' => r = .returned (s.postV f t) ∧ ∃ v', RefAt w' base b ed v' (s.post f t) ∧ Only (fun j => j = b ∨ v.ownBlock = some j) w w' := by
  unfold Sh.postV Sh.post
  by_cases hc : Sh.can f t
  · rw [if_pos hc, if_pos hc]
    exact rPost_yes w base b ed v s f t h hbase hc hn hby
  · rw [if_neg hc, if_neg hc]
    refine (rPost_no w _ f t hc).mono ?_
    rintro r w' ⟨rfl, rfl⟩
    exact ⟨rfl, v, h, Only.refl _ _⟩
end Go.Proofs.Ytfekllnalacggaa
