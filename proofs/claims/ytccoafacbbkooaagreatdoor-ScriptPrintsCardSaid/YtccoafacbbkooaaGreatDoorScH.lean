/- Script: strings.Split's words; Read. -/
import Derived.Test.YtccoafacbbkooaaGreatDoorScG
import Derived.Test.YtccoafacbbkooaaGreatDoorSh0
namespace Go.Proofs.YtccoafacbbkooaaGreatDoor
open Go.RowKit

theorem index_words : ∀ (l : Wd), (Lib.index l [32] = -1 ∧ wordsL l = [l]) ∨ ∃ p t, l = p ++ 32 :: t ∧ Lib.index l [32] = (p.length : Int) ∧ wordsL l = p :: wordsL t
  | [] => .inl ⟨rfl, rfl⟩
  | c :: l => by
    have ih := index_words l
    have ew : wordsL (c :: l) = if c = 32 then [] :: wordsL l else consHead c (wordsL l) := by rw [wordsL]
    have ei : Lib.index (c :: l) [32] = if [32].isPrefixOf (c :: l) then 0 else if Lib.index l [32] == -1 then -1 else Lib.index l [32] + 1 := by rw [Lib.index]
    have e : ([32].isPrefixOf (c :: l)) = (32 == c) := by simp [List.isPrefixOf]
    rw [ew, ei, e]
    by_cases hc : c = 32
    · subst hc
      exact .inr ⟨[], l, rfl, by simp, by simp⟩
    · have hb : (32 == c) = false := by simpa using Ne.symm hc
      rw [hb, if_neg hc]
      rcases ih with ⟨h1, h2⟩ | ⟨p, t, h1, h2, h3⟩
      · exact .inl ⟨by simp [h1], by rw [h2]; rfl⟩
      · refine .inr ⟨c :: p, t, by simp [h1], ?_, by rw [h3]; rfl⟩
        have : ¬ ((p.length : Int) = -1) := by omega
        simp [h2, this]
theorem splitK_words : ∀ (n : Nat) (l : Wd), l.length ≤ n → Lib.splitK [32] 0 (Lib.count l [32]) l = wordsL l ∧ (wordsL l).length = Lib.count l [32] + 1
  | n, l, hn => by
    rcases index_words l with ⟨h1, h2⟩ | ⟨p, t, h1, h2, h3⟩
    · rw [Lib.count_miss h1, h2]
      exact ⟨rfl, rfl⟩
    · have hl : l.length = p.length + 1 + t.length := by rw [h1]; simp; omega
      have hd : l.drop (p.length + [(32 : UInt8)].length) = t := by
        rw [h1, List.drop_append]
        simp
      have ht : l.take p.length = p := by
        rw [h1]
        simp
      rw [Lib.count_hit (by simp) h2, hd, Nat.add_comm]
      cases n with
      | zero => omega
      | succ n =>
        have ih := splitK_words n t (by omega)
        refine ⟨?_, by rw [h3, List.length_cons, ih.2]⟩
        rw [Lib.splitK]
        have hne : ¬ ((p.length : Int) = -1) := by omega
        rw [h2]
        simp only [beq_iff_eq, hne, if_false, Int.toNat_natCast, Nat.add_zero]
        rw [hd, h3, ih.1, ht]
theorem split_words (x : Wd) : ((Lib.splitB (bs [32]) 0 (Lib.countB (bs x) (bs [32])) (bs x)).map Value.string) = (wordsL x).map fun y => Value.string (bs y) := by
  have h := Lib.splitB_data (bs [32]) 0 (Lib.countB (bs x) (bs [32])) (bs x)
  have h2 : Lib.countB (bs x) (bs [32]) = Lib.count x [32] := by
    unfold Lib.countB
    rw [bs_data, bs_data]
  rw [h2] at h ⊢
  rw [bs_data, bs_data, (splitK_words _ _ (Nat.le_refl _)).1] at h
  rw [← h, List.map_map]
  refine List.map_congr_left fun b _ => ?_
  show Value.string b = Value.string (bs b.data.toList)
  congr 1

theorem split_w (w : World) (x : Wd) (m : Int) (hm : w.cell? ⟨Tryz.laysM146_ren.g 1, 0, none⟩ = some (.int .i64 m)) (hs : x.length < 4294967281) :
    Calls Tryz.prog 17 #[.string (bs x), .string { data := #[32] }] w fun e w' => e = .returned (.slice (some ⟨w.heap.size, 0, none⟩) (wordsL x).length (wordsL x).length) ∧ w' = w.alloc (.cells ((wordsL x).map fun y => Value.string (bs y)).toArray 9) := by
  have hc : Lib.countB (bs x) (bs [32]) + 1 = (wordsL x).length := (splitK_words _ x (Nat.le_refl _)).2.symm
  have h := Any.strings_Split { Tryz.laysM146 with } Tryz.laysM146.i9 (bs x) (bs [32]) m w (by rw [bs_size]; exact hs) hm (by decide)
  rw [split_words, hc] at h
  exact h
end Go.Proofs.YtccoafacbbkooaaGreatDoor
