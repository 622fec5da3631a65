/- Script: the reference's Print. -/
import Derived.Test.YtccoafacbbkooaaGreatDoorScPc
import Derived.Lib.AppendStr
import Derived.Laws.BytesArg
namespace Go.Proofs.YtccoafacbbkooaaGreatDoor
open Go.RowKit Go.Maps

theorem info5 : (Tryz.prog.info? 5).map (fun i => (i.zero, i.size, i.bytes)) = some (some (.int .u8 0), 1, 1) := by kernel_rfl
theorem bs_cells (s : Wd) : Lib.strCells (bs s) = Lib.byteCells s := rfl
theorem own_conv {w : World} {base n : Nat} {v : Value} {acc : Wd} (h : w.ownsRow base 5 1 v n (Lib.byteCells acc)) (hn : n = acc.length) :
    (convert 54 9 v).run Tryz.prog w = .ok (.string (bs acc)) w := by
  subst hn
  rcases h.2 with ⟨rfl, h0⟩ | ⟨g, cap, cur, rfl, _, hg, hc, _, hs, ht⟩
  · have : acc = [] := List.length_eq_zero_iff.1 h0
    subst this
    exact run_convert_bytes_nil w 54 5 Tryz.underlying54 Tryz.underlying5 0 0 9 Tryz.underlying9
  · have hB : Blk w g 5 cur := hg
    refine run_convert_bytes_back w 54 9 5 ⟨g, 0, none⟩ cap acc Tryz.underlying54 Tryz.underlying5 Tryz.underlying9 (fun j hj => ?_)
    rw [add_zero_off, hB.cell]
    have h1 : (Lib.byteCells acc)[j]? = some (.int .u8 (acc[j].toNat : Int)) := by simp [Lib.byteCells, hj]
    rw [← ht, List.getElem?_take_of_lt (by omega)] at h1
    simpa using h1

set_option maxRecDepth 100000 in
set_option maxHeartbeats 4000000 in
theorem print_r (w : World) (A : Option Addr) (cap : Nat) (l : List Itm) (hI : ItemsAt w A l) (hW : ∀ x ∈ l, Wide x) :
    Calls Tryz.prog 10 #[.slice A l.length cap] w fun e w' => e = .returned (printV l) ∧ Below w.heap.size w w' := by
  obtain ⟨i0, hi0, hz0, hz1, hz2⟩ := info_parts info5
  have HI0 := Lib.hid hi0
  have hl : l.length ≤ 4398046510976 := by have := hI.1; omega
  obtain ⟨N, hN⟩ : ∃ N, l.length = N := ⟨_, rfl⟩
  have HN := Lib.hid hN
  have HI := Lib.hid hI
  have HW := Lib.hid hW
  rw [hN] at hl ⊢
  have hb0 : ∀ w, (Instr.buildSlice 54 0 #[]).run Tryz.prog w = .ok (.slice (some ⟨w.heap.size, 0, none⟩) 0 0) (w.alloc (.cells #[] 5)) := fun w => by kernel_rfl
  have hb1 : ∀ w, (Instr.buildSlice 54 1 #[(0, .int .u8 10)]).run Tryz.prog w = .ok (.slice (some ⟨w.heap.size, 0, none⟩) 1 1) (w.alloc (.cells #[.int .u8 10] 5)) := fun w => by kernel_rfl
  by_cases hbig : 4096 < N
  · have e : printV l = .tuple #[.string { data := #[] }, .int .i64 3] := by unfold printV; rw [hN, if_pos hbig]; rfl
    rw [e]
    clear hN hI hW e hi0
    go_enter Tryz.func10, Tryz.ntmps10
    go_wp2_with fail
    go_ret2
    exact ⟨rfl, Below.refl _ _⟩
  · have hpv : printV l = (match catL l with
        | none => .tuple #[.string (bs []), .int .i64 5]
        | some t => if 262144 < t.length then .tuple #[.string (bs []), .int .i64 3] else .tuple #[.string (bs t), .int .i64 0]) := by
      unfold printV
      rw [hN, if_neg hbig]
      cases catL l <;> rfl
    have HPV := Lib.hid hpv
    clear hN hI hW hpv hi0
    go_enter Tryz.func10, Tryz.ntmps10
    go_wp2_with fail
    go_loopw [4, 5] (fun b i wr => ∃ (k : Nat) (acc : Wd), k ≤ N ∧ i = .int .i64 k ∧ catL (l.take k) = some acc ∧ Below w.heap.size w wr ∧ wr.ownsRow w.heap.size 5 1 b acc.length (Lib.byteCells acc)) (fun _ i _ => N - (intOf i).toNat)
    case atStart => exact ⟨0, [], Nat.zero_le _, rfl, rfl, (Below.refl _ _).alloc (Nat.le_refl _) _, ⟨rfl, .inr ⟨w.heap.size, 0, #[], rfl, Nat.le_refl _, Blk.new w 5 #[], Nat.le_refl _, by decide, rfl, rfl⟩⟩⟩
    case round =>
      obtain ⟨k, acc, hk, rfl, hcat, hbel, hown⟩ := hrel
      have hlen := catL_len (fun x hx => HW.out x (List.mem_of_mem_take hx)) hcat
      rw [List.length_take] at hlen
      have hacc : acc.length ≤ 1000000 := by omega
      have hbs := hbel.size
      obtain ⟨va, vc, rfl⟩ := own_form hown
      have hcv := own_conv hown rfl
      have HBEL := Lib.hid hbel
      have HOWN := Lib.hid hown
      have HCAT := Lib.hid hcat
      obtain ⟨n, hn⟩ : ∃ n, acc.length = n := ⟨_, rfl⟩
      have HNN := Lib.hid hn
      rw [hn] at HOWN hacc hcv ⊢
      clear hbel hown hlen hcat hn
      by_cases hlt : k < N
      · have hkl : k < l.length := by rw [HN.out]; exact hlt
        obtain ⟨b1, o1, rfl, d1, d2⟩ := HI.out.load HBEL.out (i := k) (List.getElem?_eq_getElem hkl)
        have hmem : l[k] ∈ l := List.getElem_mem _
        have hstep := catL_step hkl
        obtain ⟨x, hx⟩ : ∃ x, l[k] = x := ⟨_, rfl⟩
        rw [hx] at d1 d2 hmem hstep
        have hwx := HW.out x hmem
        have hln := fun (W : World) => Line_r W x
        rw [← Line_same x] at hln
        rw [HCAT.out] at hstep
        cases hp : LineP x with
        | none =>
          have hcn : catL l = none := catL_none hmem hp
          simp only [hp] at hln
          have e1 : lineV none = .tuple #[.string { data := #[] }, .int .i64 5] := rfl
          simp only [e1] at hln
          have hpv : printV l = .tuple #[.string { data := #[] }, .int .i64 5] := by rw [HPV.out, hcn]; rfl
          have HP2 := Lib.hid hpv
          have HLN := Lib.hid hln
          clear hln hpv hcn e1 hp hstep hwx hmem hx hkl d2 hcv
          go_wp2_with (go_at_call 6; refine (HLN.out _).mono ?_; rintro e w2 ⟨rfl, B⟩)
          go_ret2
          exact ⟨by rw [HP2.out]; rfl, HBEL.out.trans (B.mono HBEL.out.size)⟩
        | some s =>
          simp only [hp] at hln
          have hsl : s.length ≤ 200 := by rw [(LineP_some hp).1]; exact lineP_len x hwx
          have e1 : lineV (some s) = .tuple #[.string (bs s), .int .i64 0] := rfl
          simp only [e1] at hln
          rw [hp] at hstep
          have hstep' : catL (l.take (k + 1)) = some (acc ++ (s ++ [10])) := hstep
          have HST := Lib.hid hstep'
          have HLN := Lib.hid hln
          have HSL := Lib.hid hsl
          clear hln e1 hp hstep hstep' hwx hmem hx hkl d2 hsl hcv
          go_wp2_with (first
            | (go_at_call 6; refine (HLN.out _).mono ?_; rintro e w2 ⟨rfl, B⟩; have HB2 := Lib.hid (HBEL.out.trans (B.mono HBEL.out.size)); have HO2 := Lib.hid (own_below HOWN.out B); clear B)
            | (at_builtin; refine Lib.wpList_append_own_string _ rfl _ _ 54 9 rfl w.heap.size 5 i0 Tryz.underlying54 Tryz.underlying9 HI0.out hz0 hz1 hz2 _ _ _ rfl HO2.out (bs s) rfl (by have := HSL.out; rw [bs_size]; unfold maxLen; omega) (by have := HSL.out; rw [bs_size]; omega) HB2.out.size ?_; intro v3 w3 own3 gr3 _; rw [bs_size, bs_cells] at own3; have HB3 := Lib.hid (below_grown HB2.out (Nat.le_refl _) gr3 (own_base HO2.out)); have HO3 := Lib.hid own3; clear own3 gr3)
            | (at_builtin; refine wpList_append_own_at _ rfl _ _ 54 rfl w.heap.size 5 i0 _ 1 1 Tryz.underlying54 HI0.out hz0 hz1 hz2 rfl (by decide) _ _ _ rfl (own_below HO3.out ((Below.refl _ _).alloc (Nat.le_refl _) _)) ⟨w3.heap.size, 0, none⟩ 1 1 [.int .u8 10] rfl rfl (cell_one_new _ _ _) (fun u hu => by simp at hu; subst hu; rfl) (by have := HSL.out; unfold maxLen; omega) (by have := HSL.out; omega) (by have := HB3.out.size; simp; omega) ?_; intro v4 w4 own4 gr4 _ _; have HB4 := Lib.hid (below_grown (HB3.out.alloc HB3.out.size _) (Nat.le_refl _) gr4 (own_base HO3.out)); have HO4 := Lib.hid own4; clear own4 gr4))
          go_roundw
          case rel =>
            refine ⟨k + 1, _, by omega, by go_num, HST.out, HB4.out, ?_⟩
            have e1 : (acc ++ (s ++ [10])).length = n + s.length + 1 := by rw [← HNN.out]; simp; omega
            have e2 : Lib.byteCells (acc ++ (s ++ [10])) = Lib.byteCells acc ++ Lib.byteCells s ++ [.int .u8 10] := by simp [Lib.byteCells]
            rw [e1, e2]
            exact HO4.out
          case measure => simp [intOf]; omega
      · obtain rfl : k = N := by omega
        have hd : decide (k < k) = false := by simp
        have hcl : catL l = some acc := by rw [← HCAT.out, ← HN.out, List.take_length]
        by_cases hb2 : 262144 < n
        · have hpv : printV l = .tuple #[.string { data := #[] }, .int .i64 3] := by rw [HPV.out, hcl]; simp only; rw [HNN.out, if_pos hb2]; rfl
          have HP2 := Lib.hid hpv
          clear hpv hcl hcv
          go_wp2_with fail
          go_ret2
          exact ⟨by rw [HP2.out]; rfl, HBEL.out⟩
        · have hpv : printV l = .tuple #[.string (bs acc), .int .i64 0] := by rw [HPV.out, hcl]; simp only; rw [HNN.out, if_neg hb2]
          have HP2 := Lib.hid hpv
          clear hpv hcl
          go_wp2_with fail
          go_ret2
          exact ⟨by rw [HP2.out]; rfl, HBEL.out⟩
end Go.Proofs.YtccoafacbbkooaaGreatDoor
