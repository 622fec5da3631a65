/- Script: the reference's words. -/
import Derived.Test.YtccoafacbbkooaaGreatDoorScJ
import Derived.Maps.AppendAt
namespace Go.Proofs.YtccoafacbbkooaaGreatDoor
open Go.RowKit Go.Maps

def strs (l : List Wd) : List Value := l.map fun y => .string (bs y)
theorem strs_snoc (l : List Wd) (x : Wd) : strs (l ++ [x]) = strs l ++ [.string (bs x)] := by simp [strs]
theorem strs_len (l : List Wd) : (strs l).length = l.length := by simp [strs]
def piece (w : Wd) (j k : Nat) : Wd := (w.take k).drop j
theorem extract_piece (x : Wd) (j k : Nat) : (bs x).extract j k = bs (piece x j k) := by
  apply ByteArray.ext
  apply Array.ext'
  simp [bs, piece, ByteArray.data_extract, List.extract_eq_take_drop, List.drop_take]
theorem piece_same (x : Wd) (k : Nat) : piece x k k = [] := by unfold piece; simp
theorem piece_snoc {x : Wd} {j k : Nat} (h : k < x.length) (hj : j ≤ k) : piece x j (k + 1) = piece x j k ++ [x[k]] := by
  unfold piece
  rw [List.take_succ_eq_append_getElem h, List.drop_append_of_le_length (by simp; omega)]
theorem str_of_own {w : World} {base : Nat} {v : Value} {l : List Wd} (h : w.ownsRow base 9 1 v l.length (strs l)) : StrAt w v l := by
  rcases h.2 with ⟨hv, h0⟩ | ⟨g, cap, cur, hv, _, hg, hc, _, hs, ht⟩
  · have : l = [] := List.length_eq_zero_iff.1 h0
    subst this
    exact ⟨none, 0, hv, by simp, .inl ⟨rfl, rfl⟩⟩
  · refine ⟨_, cap, hv, hc, .inr ⟨g, 0, cur, rfl, hg, by rw [hs]; omega, fun j x hj => ?_⟩⟩
    have hlt := (List.getElem?_eq_some_iff.1 hj).1
    have h1 : (strs l)[j]? = some (.string (bs x)) := by simp [strs, hj]
    rw [← ht, List.getElem?_take_of_lt (by omega)] at h1
    rw [Nat.zero_add]
    simpa using h1
theorem own_base {w : World} {base : Nat} {e : TypeId} {size n : Nat} {v : Value} {xs : List Value} (h : w.ownsRow base e size v n xs) : ∀ k, v.ownBlock = some k → base ≤ k := by
  intro k hk
  rcases h.2 with ⟨hv, _⟩ | ⟨g, cap, cur, hv, hb, _⟩
  · rw [hv] at hk; cases hk
  · rw [hv] at hk
    have : g = k := by simpa [Value.ownBlock] using hk
    omega
theorem below_grown {B : Nat} {a w w' : World} {row : Option Nat} (h : Below B a w) (hB : B ≤ a.heap.size) (hg : w.grownBy w' row) (hr : ∀ k, row = some k → B ≤ k) : Below B a w' :=
  ⟨hg.os.trans h.os, hg.tape.trans h.tape, hg.output.trans h.output, Nat.le_trans h.size hg.size, fun k hk => (hg.block k (Nat.lt_of_lt_of_le (Nat.lt_of_lt_of_le hk hB) h.size) (fun e => by have := hr k e.symm; omega)).trans (h.block k hk)⟩
theorem info9 : (Tryz.prog.info? 9).map (fun i => (i.zero, i.size, i.bytes)) = some (some (.string ByteArray.empty), 1, 16) := by kernel_rfl

set_option maxRecDepth 100000 in
set_option maxHeartbeats 2000000 in
theorem words_r (x : Wd) (w : World) (hl : x.length < 4294967281) : Calls Tryz.prog 29 #[.string (bs x)] w fun r w' => ∃ v, r = .returned v ∧ StrAt w' v (wordsL x) ∧ Below w.heap.size w w' := by
  obtain ⟨i0, hi0, hz0, hz1, hz2⟩ := info_parts info9
  obtain ⟨s, hs⟩ : ∃ s, bs x = s := ⟨_, rfl⟩
  have hsz : s.size = x.length := by rw [← hs]; exact bs_size x
  have hget : ∀ (k : Nat) (h : k < s.size) (h2 : k < x.length), s[k] = x[k] := by subst hs; intro k h _; rfl
  have hex : ∀ j k, s.extract j k = bs (piece x j k) := by subst hs; exact extract_piece x
  rw [hs]
  have hn : s.size < 4294967281 := by omega
  have hb0 : ∀ w, (Instr.buildSlice 48 0 #[]).run Tryz.prog w = .ok (.slice (some ⟨w.heap.size, 0, none⟩) 0 0) (w.alloc (.cells #[] 9)) := fun w => by kernel_rfl
  have hb1 : ∀ w b, (Instr.buildSlice 48 1 #[(0, .string b)]).run Tryz.prog w = .ok (.slice (some ⟨w.heap.size, 0, none⟩) 1 1) (w.alloc (.cells #[.string b] 9)) := fun w b => by kernel_rfl
  have HS := Lib.hid hsz
  have HGet := Lib.hid hget
  have HEX := Lib.hid hex
  have HI := Lib.hid hi0
  clear hs hsz hget hex
  go_enter Tryz.func29, Tryz.ntmps29
  go_wp2_with fail
  go_loopw [3, 4, 5] (fun o f i wr => ∃ (j k : Nat) (d : List Wd), f = .int .i64 j ∧ i = .int .i64 k ∧ d.length ≤ k ∧ wr.ownsRow w.heap.size 9 1 o d.length (strs d) ∧ Below w.heap.size w wr ∧
      ((k ≤ s.size ∧ j ≤ k ∧ wordsL x = d ++ consPre (piece x j k) (wordsL (x.drop k))) ∨ (k = s.size + 1 ∧ wordsL x = d)))
    (fun _ _ i _ => s.size + 1 - (intOf i).toNat)
  case atStart =>
    refine ⟨0, 0, [], rfl, rfl, Nat.le_refl _, ?_, (Below.refl _ _).alloc (Nat.le_refl _) _, .inl ⟨Nat.zero_le _, Nat.le_refl _, ?_⟩⟩
    · exact ⟨rfl, .inr ⟨w.heap.size, 0, #[], rfl, Nat.le_refl _, Blk.new w 9 #[], Nat.le_refl _, by decide, rfl, rfl⟩⟩
    · rw [piece_same, List.drop_zero, consPre_nil (wordsL_ne _)]
      rfl
  case round =>
    obtain ⟨j, k, d, rfl, rfl, hdk, hown, hbel, hcase⟩ := hrel
    have hbs := hbel.size
    have HOWN := Lib.hid hown
    have HBEL := Lib.hid hbel
    rcases hcase with ⟨hk, hj, hw⟩ | ⟨rfl, hw⟩
    · have HWW := Lib.hid hw
      clear hown hbel hw
      by_cases hlt : k < s.size
      · have hltx : k < x.length := by rw [← HS.out]; exact hlt
        have hg := HGet.out k hlt hltx
        obtain ⟨c, hc⟩ : ∃ c, x[k] = c := ⟨_, rfl⟩
        rw [hc] at hg
        have HC := Lib.hid hc
        clear hc
        by_cases h32 : c = 32
        · have h32' : c.toNat = 32 := by rw [h32]; rfl
          go_wp2_with (at_builtin; refine wpList_append_own_at _ rfl _ _ 48 rfl w.heap.size 9 i0 _ 1 16 Tryz.underlying48 HI.out hz0 hz1 hz2 rfl (by decide) _ _ _ rfl (own_below HOWN.out ((Below.refl _ _).alloc (Nat.le_refl _) _)) ⟨wr.heap.size, 0, none⟩ 1 1 [.string (s.extract j k)] rfl rfl (cell_one_new _ _ _) (fun u hu => by simp at hu; subst hu; rfl) (by unfold maxLen; omega) (by omega) (by simp; omega) ?_; intro v1 w1 own1 gr1 _ at1; have HO1 := Lib.hid own1; have HG1 := Lib.hid gr1; clear own1 gr1 at1)
          go_roundw
          case rel =>
            refine ⟨k + 1, k + 1, d ++ [piece x j k], by go_num, by go_num, (by simp; try omega), ?_, below_grown (HBEL.out.alloc (by omega) _) (Nat.le_refl _) HG1.out (own_base HOWN.out), .inl ⟨by omega, Nat.le_refl _, ?_⟩⟩
            · rw [strs_snoc, List.length_append, ← HEX.out]
              exact HO1.out
            · rw [HWW.out, List.drop_eq_getElem_cons hltx, HC.out, h32, words_blank, piece_same, consPre_nil (wordsL_ne _), List.append_assoc]
              rfl
          case measure => simp [intOf]; omega
        · have h32' : ¬ c.toNat = 32 := fun e => h32 (UInt8.toNat_inj.1 e)
          have h32b : ((c.toNat : Int) == 32) = false := by rw [beq_eq_false_iff_ne]; omega
          have hke : ((k : Int) == (s.size : Int)) = false := by rw [beq_eq_false_iff_ne]; omega
          go_wp2_with fail
          go_roundw
          case rel =>
            refine ⟨j, k + 1, d, rfl, by go_num, by omega, HOWN.out, HBEL.out, .inl ⟨by omega, by omega, ?_⟩⟩
            rw [HWW.out, List.drop_eq_getElem_cons hltx, HC.out, words_other _ _ _ h32, piece_snoc hltx hj, HC.out]
          case measure => simp [intOf]; omega
      · obtain rfl : k = s.size := by omega
        go_wp2_with (at_builtin; refine wpList_append_own_at _ rfl _ _ 48 rfl w.heap.size 9 i0 _ 1 16 Tryz.underlying48 HI.out hz0 hz1 hz2 rfl (by decide) _ _ _ rfl (own_below HOWN.out ((Below.refl _ _).alloc (Nat.le_refl _) _)) ⟨wr.heap.size, 0, none⟩ 1 1 [.string (s.extract j s.size)] rfl rfl (cell_one_new _ _ _) (fun u hu => by simp at hu; subst hu; rfl) (by unfold maxLen; omega) (by omega) (by simp; omega) ?_; intro v1 w1 own1 gr1 _ at1; have HO1 := Lib.hid own1; have HG1 := Lib.hid gr1; clear own1 gr1 at1)
        go_roundw
        case rel =>
          refine ⟨s.size + 1, s.size + 1, d ++ [piece x j s.size], by go_num, by go_num, (by simp; try omega), ?_, below_grown (HBEL.out.alloc (by omega) _) (Nat.le_refl _) HG1.out (own_base HOWN.out), .inr ⟨rfl, ?_⟩⟩
          · rw [strs_snoc, List.length_append, ← HEX.out]
            exact HO1.out
          · rw [HWW.out, HS.out, List.drop_length, words_last]
        case measure => (simp [intOf]; try omega)
    · have HWW := Lib.hid hw
      clear hown hbel hw
      go_wp2_with fail
      go_ret
      exact ⟨_, rfl, by rw [HWW.out]; exact str_of_own HOWN.out, HBEL.out⟩
end Go.Proofs.YtccoafacbbkooaaGreatDoor
