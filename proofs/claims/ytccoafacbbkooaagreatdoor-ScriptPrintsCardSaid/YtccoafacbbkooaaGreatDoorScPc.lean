/- Script: the program's Print. -/
import Derived.Test.YtccoafacbbkooaaGreatDoorScPb
namespace Go.Proofs.YtccoafacbbkooaaGreatDoor
open Go.RowKit Go.Maps

abbrev Bld (B : Nat) (l : Wd) (w : World) : Prop := Lib.IsBuilder 56 5 B B (Lib.byteCells l) w
theorem Bld.below {B : Nat} {l : Wd} {w w' : World} (h : Bld B l w) (hb : Below w.heap.size w w') : Bld B l w' := by
  have gen : ∀ p, Lib.BuilderAt 56 5 B B p (Lib.byteCells l) w → Lib.BuilderAt 56 5 B B p (Lib.byteCells l) w' := by
    rintro p ⟨h1, v, h2, h3, h4⟩
    have hlt : B < w.heap.size := (Array.getElem?_eq_some_iff.1 h2).1
    exact ⟨h1, v, (hb.block B hlt).trans h2, own_below h3 hb, h4⟩
  exact h.imp (gen _) (gen _)
theorem Bld.lt {B : Nat} {l : Wd} {w : World} (h : Bld B l w) : B < w.heap.size := by
  rcases h with h | h <;> exact h.lt
theorem Bld.new (w : World) : Bld w.heap.size [] (w.alloc (.cells #[.pointer none, .slice none 0 0] 56)) :=
  .inl ⟨Nat.le_refl _, .slice none 0 0, Blk.new w 56 #[.pointer none, .slice none 0 0], ⟨rfl, .inl ⟨rfl, rfl⟩⟩, by simp [Value.ownBlock]⟩
theorem wstr_w (B : Nat) (l m : Wd) (w : World) (h : Bld B l w) (hlen : l.length + m.length ≤ 140737488355328) :
    Calls Tryz.prog 19 #[.pointer (some ⟨B, 0, none⟩), .string (bs m)] w fun e w' => e = .returned (.tuple #[.int .i64 (m.length : Int), .nilIface]) ∧ Bld B (l ++ m) w' ∧ Below B w w' := by
  have h1 := Any.Builder_WriteString (ρ := Tryz.lays156_ren) { Tryz.lays156 with } Tryz.Builder_Extra_156 B B (Lib.byteCells l) (bs m) w h (by rw [Lib.byteCells_length, bs_size]; exact hlen) (Nat.le_of_lt (Bld.lt h))
  refine h1.mono fun e w' ⟨he, hb, hbel⟩ => ⟨?_, ?_, hbel⟩
  · rw [he, bs_size]
  · refine .inr ?_
    rw [Lib.byteCells_append]
    exact hb
theorem wlen_w (B : Nat) (l : Wd) (w : World) (h : Bld B l w) : Calls Tryz.prog 20 #[.pointer (some ⟨B, 0, none⟩)] w fun e w' => e = .returned (.int .i64 (l.length : Int)) ∧ w = w' :=
  (Tryz.Builder_Len B B (Lib.byteCells l) w h).mono fun e w' ⟨he, hw⟩ => ⟨by rw [he, Lib.byteCells_length], hw.symm⟩
theorem wstring_w (B : Nat) (l : Wd) (w : World) (h : Bld B l w) : Calls Tryz.prog 21 #[.pointer (some ⟨B, 0, none⟩)] w fun e w' => e = .returned (.string (bs l)) ∧ Below B w w' :=
  Tryz.Builder_String_any B B l w h (Nat.le_of_lt (Bld.lt h))

set_option maxRecDepth 100000 in
set_option maxHeartbeats 4000000 in
theorem print_w (w : World) (A : Option Addr) (cap : Nat) (l : List Itm) (hI : ItemsAt w A l) (hW : ∀ x ∈ l, Wide x) (ht : Tab w) (hm : MaxAt w) :
    Calls Tryz.prog 9 #[.slice A l.length cap] w fun e w' => e = .returned (printV l) ∧ Below w.heap.size w w' := by
  have hl : l.length ≤ 4398046510976 := by have := hI.1; omega
  obtain ⟨N, hN⟩ : ∃ N, l.length = N := ⟨_, rfl⟩
  have HN := Lib.hid hN
  have HI := Lib.hid hI
  have HW := Lib.hid hW
  have HT := Lib.hid ht
  have HM := Lib.hid hm
  rw [hN] at hl ⊢
  by_cases hbig : 4096 < N
  · have e : printV l = .tuple #[.string { data := #[] }, .int .i64 3] := by unfold printV; rw [hN, if_pos hbig]; rfl
    rw [e]
    clear hN hI hW ht hm e
    go_enter Tryz.func9, Tryz.ntmps9
    go_wp2_with fail
    go_ret2
    exact ⟨rfl, Below.refl _ _⟩
  · have hpv : printV l = (match catL l with
        | none => .tuple #[.string (bs []), .int .i64 5]
        | some t => if 262144 < t.length then .tuple #[.string (bs []), .int .i64 3] else .tuple #[.string (bs t), .int .i64 0]) := by
      unfold printV
      rw [hN, if_neg hbig]
      cases catL l <;> rfl
    have HPV := Lib.hid hpv
    clear hN hI hW ht hm hpv
    go_enter Tryz.func9, Tryz.ntmps9
    go_wp2_with fail
    go_loopw [14] (fun i wr => ∃ (k : Nat) (acc : Wd), k ≤ N ∧ i = .int .i64 k ∧ catL (l.take k) = some acc ∧ Below w.heap.size w wr ∧ Bld w.heap.size acc wr) (fun i _ => N - (intOf i).toNat)
    case atStart => exact ⟨0, [], Nat.zero_le _, rfl, rfl, (Below.refl _ _).alloc (Nat.le_refl _) _, Bld.new w⟩
    case round =>
      obtain ⟨k, acc, hk, rfl, hcat, hbel, hbld⟩ := hrel
      have hlen := catL_len (fun x hx => HW.out x (List.mem_of_mem_take hx)) hcat
      rw [List.length_take] at hlen
      have hacc : acc.length ≤ 1000000 := by omega
      have HBEL := Lib.hid hbel
      have HBLD := Lib.hid hbld
      have HCAT := Lib.hid hcat
      clear hbel hbld hlen hcat
      by_cases hlt : k < N
      · have hkl : k < l.length := by rw [HN.out]; exact hlt
        obtain ⟨b1, o1, rfl, d1, d2⟩ := HI.out.load HBEL.out (i := k) (List.getElem?_eq_getElem hkl)
        have hmem : l[k] ∈ l := List.getElem_mem _
        have hstep := catL_step hkl
        obtain ⟨x, hx⟩ : ∃ x, l[k] = x := ⟨_, rfl⟩
        rw [hx] at d1 d2 hmem hstep
        have hwx := HW.out x hmem
        have hln := fun (W : World) (hb : Below w.heap.size w W) => Line_w W x hwx (HT.out.below hb) (HM.out.below hb)
        rw [HCAT.out] at hstep
        cases hp : LineP x with
        | none =>
          have hcn : catL l = none := catL_none hmem hp
          simp only [hp] at hln
          have e1 : lineV none = .tuple #[.string { data := #[] }, .int .i64 5] := rfl
          simp only [e1] at hln
          have hpv : printV l = .tuple #[.string { data := #[] }, .int .i64 5] := by rw [HPV.out, hcn]; rfl
          have HP2 := Lib.hid hpv
          have HLN := Lib.hid hln
          clear hln hpv hcn e1 hp hstep hwx hmem hx hkl d2
          go_wp2_with (go_at_call 5; refine (HLN.out _ (HBEL.out.alloc HBEL.out.size _)).mono ?_; rintro e w2 ⟨rfl, B⟩)
          go_ret2
          exact ⟨by rw [HP2.out]; rfl, (HBEL.out.alloc HBEL.out.size _).trans (B.mono (by have := HBEL.out.size; simp; omega))⟩
        | some s =>
          simp only [hp] at hln
          have hsl : s.length ≤ 200 := by rw [(LineP_some hp).1]; exact lineP_len x hwx
          have e1 : lineV (some s) = .tuple #[.string (bs s), .int .i64 0] := rfl
          simp only [e1] at hln
          have hsh : short (bs s ++ ({ data := #[10] } : ByteArray)) = true := short_of (by rw [ByteArray.size_append, bs_size, lit_size]; simp; omega)
          have happ : bs s ++ ({ data := #[10] } : ByteArray) = bs (s ++ [10]) := bs_app s [10]
          rw [hp] at hstep
          have hstep' : catL (l.take (k + 1)) = some (acc ++ (s ++ [10])) := hstep
          have HST := Lib.hid hstep'
          have HLN := Lib.hid hln
          have HAP := Lib.hid happ
          have hws := fun (W : World) (h : Bld w.heap.size acc W) => wstr_w w.heap.size acc (s ++ [10]) W h (by simp; omega)
          rw [← happ] at hws
          have HWS := Lib.hid hws
          clear hln e1 hp hstep hstep' hwx hmem hx hkl d2 happ hws hsl
          go_wp2_with (first
            | (go_at_call 5; refine (HLN.out _ (HBEL.out.alloc HBEL.out.size _)).mono ?_; rintro e w2 ⟨rfl, B⟩; have HB2 := Lib.hid ((HBEL.out.alloc HBEL.out.size _).trans (B.mono (by have := HBEL.out.size; simp; omega))); have HBD2 := Lib.hid ((HBLD.out.below ((Below.refl _ _).alloc (Nat.le_refl _) _)).below B); clear B)
            | (go_at_call 19; refine (HWS.out _ HBD2.out).mono ?_; rintro e w3 ⟨rfl, D, B⟩; have HD3 := Lib.hid D; have HB3 := Lib.hid (HB2.out.trans B); clear D B))
          go_roundw
          case rel => exact ⟨k + 1, _, by omega, by go_num, HST.out, HB3.out, HD3.out⟩
          case measure => simp [intOf]; omega
      · obtain rfl : k = N := by omega
        have hd : decide (k < k) = false := by simp
        have hcl : catL l = some acc := by rw [← HCAT.out, ← HN.out, List.take_length]
        by_cases hb2 : 262144 < acc.length
        · have hpv : printV l = .tuple #[.string { data := #[] }, .int .i64 3] := by rw [HPV.out, hcl]; simp only; rw [if_pos hb2]; rfl
          have HP2 := Lib.hid hpv
          clear hpv hcl
          go_wp2_with (go_at_call 20; refine (wlen_w _ acc _ HBLD.out).mono ?_; rintro e w2 ⟨rfl, rfl⟩)
          go_ret2
          exact ⟨by rw [HP2.out]; rfl, HBEL.out⟩
        · have hpv : printV l = .tuple #[.string (bs acc), .int .i64 0] := by rw [HPV.out, hcl]; simp only; rw [if_neg hb2]
          have HP2 := Lib.hid hpv
          clear hpv hcl
          go_wp2_with (first
            | (go_at_call 20; refine (wlen_w _ acc _ HBLD.out).mono ?_; rintro e w2 ⟨rfl, rfl⟩)
            | (go_at_call 21; refine (wstring_w _ acc _ HBLD.out).mono ?_; rintro e w3 ⟨rfl, B3⟩))
          go_ret2
          exact ⟨by rw [HP2.out]; rfl, HBEL.out.trans B3⟩
end Go.Proofs.YtccoafacbbkooaaGreatDoor
