/- Script: texts of items: plain law. No program in sight. -/
import Derived.Test.YtccoafacbbkooaaGreatDoorScRow
namespace Go.Proofs.YtccoafacbbkooaaGreatDoor

/-! ### The text -/
def catL : List Itm → Option Wd
  | [] => some []
  | x :: r => match LineP x, catL r with
    | some l, some t => some (l ++ 10 :: t)
    | _, _ => none
theorem catL_snoc : ∀ (xs : List Itm) (x : Itm), catL (xs ++ [x]) = match catL xs, LineP x with
    | some t, some l => some (t ++ (l ++ [10]))
    | _, _ => none
  | [], x => by
    simp only [List.nil_append, catL]
    cases LineP x <;> rfl
  | y :: r, x => by
    have ih := catL_snoc r x
    simp only [List.cons_append, catL]
    rw [ih]
    cases hy : LineP y with
    | none => cases catL r <;> cases LineP x <;> rfl
    | some l =>
      cases hr : catL r with
      | none => cases LineP x <;> rfl
      | some t =>
        cases hx : LineP x with
        | none => rfl
        | some m => simp
theorem catL_step {xs : List Itm} {k : Nat} (hk : k < xs.length) : catL (xs.take (k + 1)) = match catL (xs.take k), LineP xs[k] with
    | some t, some l => some (t ++ (l ++ [10]))
    | _, _ => none := by
  rw [List.take_succ_eq_append_getElem hk, catL_snoc]
theorem catL_none {xs : List Itm} {x : Itm} (hx : x ∈ xs) (h : LineP x = none) : catL xs = none := by
  induction xs with
  | nil => cases hx
  | cons y r ih =>
    rcases List.mem_cons.1 hx with rfl | hx
    · simp [catL, h]
    · have := ih hx
      simp only [catL, this]
      cases LineP y <;> rfl
theorem catL_mem {xs : List Itm} {t : Wd} (h : catL xs = some t) : ∀ x ∈ xs, LineP x = some (lineP x) := by
  intro x hx
  cases hl : LineP x with
  | none => rw [catL_none hx hl] at h; cases h
  | some l => rw [(LineP_some hl).1]
theorem catL_len {xs : List Itm} (hw : ∀ x ∈ xs, Wide x) {t : Wd} (h : catL xs = some t) : t.length ≤ xs.length * 201 := by
  induction xs generalizing t with
  | nil =>
    have := Option.some.inj h
    subst this
    simp
  | cons x r ih =>
    have hl := catL_mem h x (by simp)
    simp only [catL, hl] at h
    cases hr : catL r with
    | none => rw [hr] at h; cases h
    | some s =>
      rw [hr] at h
      have := Option.some.inj h
      subst this
      have h1 := ih (fun y hy => hw y (List.mem_cons_of_mem _ hy)) hr
      have h2 := lineP_len x (hw x (by simp))
      simp only [List.length_append, List.length_cons]
      omega
/-- What Print tells. -/
def printV (xs : List Itm) : Value :=
  if 4096 < xs.length then .tuple #[.string (bs []), .int .i64 3]
  else match catL xs with
    | none => .tuple #[.string (bs []), .int .i64 5]
    | some t => if 262144 < t.length then .tuple #[.string (bs []), .int .i64 3] else .tuple #[.string (bs t), .int .i64 0]

/-! ### Its letters -/
def okc (c : UInt8) : Bool := c != 10 && c != 35
theorem dec_ok : ∀ u : Nat, (Lib.decDigits u).all okc = true := by
  intro u
  induction u using Nat.strongRecOn with
  | ind u ih =>
    have hd : ∀ d, d < 10 → okc (UInt8.ofNat (48 + d)) = true := by
      intro d hd
      have : d = 0 ∨ d = 1 ∨ d = 2 ∨ d = 3 ∨ d = 4 ∨ d = 5 ∨ d = 6 ∨ d = 7 ∨ d = 8 ∨ d = 9 := by omega
      rcases this with rfl | rfl | rfl | rfl | rfl | rfl | rfl | rfl | rfl | rfl <;> decide
    rw [Lib.decDigits]
    split
    · rename_i h
      simp only [List.all_cons, List.all_nil, Bool.and_true]
      exact hd u h
    · rename_i h
      rw [List.all_append, ih (u / 10) (by omega)]
      simp only [List.all_cons, List.all_nil, Bool.and_true, Bool.true_and]
      exact hd _ (by omega)
theorem dg_ok (n : Int) : (dg n).all okc = true := by
  unfold dg Lib.itoa
  split
  · rw [List.all_cons, dec_ok]
    rfl
  · exact dec_ok _
theorem permP_ok (p : Int) : (permP p).all okc = true := by
  unfold permP
  repeat' split
  all_goals rfl
theorem okc32 : okc 32 = true := rfl
theorem key_ok : kMap.all okc = true ∧ kUnmap.all okc = true ∧ kProtect.all okc = true ∧ kBind.all okc = true ∧ kLoad.all okc = true ∧ kStore.all okc = true ∧ kLocal.all okc = true ∧ kPrefer.all okc = true ∧ kMix.all okc = true ∧
    kCore.all okc = true ∧ kDaemon.all okc = true ∧ kEvict.all okc = true ∧ kRounds.all okc = true ∧ kMove.all okc = true ∧ kSplit.all okc = true ∧ kJoin.all okc = true ∧ kCopy.all okc = true := by decide
theorem join2_ok {a b : Wd} (ha : a.all okc = true) (hb : b.all okc = true) : (joinW [a, b]).all okc = true := by
  rw [joinW2, List.all_append, List.all_cons, ha, hb, okc32]
  rfl
theorem join3_ok {a b c : Wd} (ha : a.all okc = true) (hb : b.all okc = true) (hc : c.all okc = true) : (joinW [a, b, c]).all okc = true := by
  rw [joinW3, List.all_append, List.all_cons, List.all_append, List.all_cons, ha, hb, hc, okc32]
  rfl
theorem join4_ok {a b c d : Wd} (ha : a.all okc = true) (hb : b.all okc = true) (hc : c.all okc = true) (hd : d.all okc = true) : (joinW [a, b, c, d]).all okc = true := by
  rw [joinW4, List.all_append, List.all_cons, List.all_append, List.all_cons, List.all_append, List.all_cons, ha, hb, hc, hd, okc32]
  rfl
theorem polP_ok (k n : Int) : (polP k n).all okc = true := by
  obtain ⟨k1, k2, k3, k4, k5, k6, k7, k8, k9, _⟩ := key_ok
  unfold polP
  split
  · rfl
  · split
    · rfl
    · split
      · exact k7
      · split
        · exact join2_ok k4 (dg_ok n)
        · split
          · exact join2_ok k8 (dg_ok n)
          · exact join2_ok k9 (dg_ok n)
theorem callP_ok (c : Cl) : (callP c).all okc = true := by
  obtain ⟨k1, k2, k3, k4, k5, k6, _⟩ := key_ok
  have hp : (pagesP c).all okc = true := join2_ok (dg_ok _) (dg_ok _)
  unfold callP
  split
  · exact join4_ok k1 hp (permP_ok _) (polP_ok _ _)
  · split
    · exact join2_ok k2 hp
    · split
      · exact join3_ok k3 hp (permP_ok _)
      · split
        · exact join3_ok k4 hp (polP_ok _ _)
        · split
          · exact join2_ok k5 (dg_ok _)
          · split
            · exact join3_ok k6 (dg_ok _) (dg_ok _)
            · rfl
theorem jobP_ok (o k p n : Int) : (jobP o k p n).all okc = true := by
  obtain ⟨_, _, _, _, _, _, _, _, _, _, _, _, _, k1, k2, k3, k4⟩ := key_ok
  have hp : (placeP o p).all okc = true := join2_ok (dg_ok _) (dg_ok _)
  unfold jobP
  split
  · exact join3_ok k1 hp (dg_ok _)
  · split
    · exact join2_ok k2 hp
    · split
      · exact join3_ok k3 hp (dg_ok _)
      · split
        · exact join3_ok k4 hp (dg_ok _)
        · rfl
theorem lineP_ok (x : Itm) : (lineP x).all okc = true := by
  obtain ⟨_, _, _, _, _, _, _, _, _, k1, k2, k3, k4, _⟩ := key_ok
  unfold lineP
  split
  · exact join2_ok (dg_ok _) (callP_ok _)
  · split
    · exact join2_ok k1 (dg_ok _)
    · split
      · exact join2_ok k2 (dg_ok _)
      · split
        · exact join3_ok k3 (dg_ok _) (dg_ok _)
        · split
          · exact join2_ok k4 (dg_ok _)
          · split
            · exact jobP_ok _ _ _ _
            · rfl
/-- A line that is left out. -/
def plainL (l : Wd) : Bool := l.isEmpty || l.head? == some 35
theorem plain_not {x : Itm} (h : LineP x = some (lineP x)) : plainL (lineP x) = false := by
  have h1 := lineP_ok x
  have h2 := (LineP_some h).2
  unfold plainL
  cases hl : lineP x with
  | nil =>
    rw [hl] at h2
    have : readP (wordsL []) = none := by decide +kernel
    rw [this] at h2
    cases h2
  | cons c t =>
    rw [hl, List.all_cons, Bool.and_eq_true] at h1
    have hc : c ≠ 35 := by
      intro e
      subst e
      exact absurd h1.1 (by decide)
    simp [hc]

/-! ### Lines -/
/-- What stands between single d. -/
def cutL (d : UInt8) : Wd → List Wd
  | [] => [[]]
  | c :: l => if c = d then [] :: cutL d l else consHead c (cutL d l)
theorem cutL_app {d : UInt8} : ∀ {l : Wd} (_ : ∀ c ∈ l, c ≠ d) (t : Wd), cutL d (l ++ d :: t) = l :: cutL d t
  | [], _, t => by simp [cutL]
  | c :: l, h, t => by
    have hc : c ≠ d := h c (by simp)
    have ih := cutL_app (l := l) (fun x hx => h x (List.mem_cons_of_mem _ hx)) t
    rw [List.cons_append, cutL, if_neg hc, ih]
    rfl
theorem lines_of {xs : List Itm} {t : Wd} (h : catL xs = some t) : cutL 10 t = xs.map lineP ++ [[]] := by
  induction xs generalizing t with
  | nil =>
    have := Option.some.inj h
    subst this
    rfl
  | cons x r ih =>
    have hl := catL_mem h x (by simp)
    simp only [catL, hl] at h
    cases hr : catL r with
    | none => rw [hr] at h; cases h
    | some s =>
      rw [hr] at h
      have := Option.some.inj h
      subst this
      rw [cutL_app (fun c hc e => ?_), ih hr]
      · rfl
      · have h1 := lineP_ok x
        rw [List.all_eq_true] at h1
        subst e
        exact absurd (h1 _ hc) (by decide)
theorem index_cut (d : UInt8) : ∀ (l : Wd), (Lib.index l [d] = -1 ∧ cutL d l = [l]) ∨ ∃ p t, l = p ++ d :: t ∧ Lib.index l [d] = (p.length : Int) ∧ cutL d l = p :: cutL d t
  | [] => .inl ⟨rfl, rfl⟩
  | c :: l => by
    have ih := index_cut d l
    have ew : cutL d (c :: l) = if c = d then [] :: cutL d l else consHead c (cutL d l) := by rw [cutL]
    have ei : Lib.index (c :: l) [d] = if [d].isPrefixOf (c :: l) then 0 else if Lib.index l [d] == -1 then -1 else Lib.index l [d] + 1 := by rw [Lib.index]
    have e : ([d].isPrefixOf (c :: l)) = (d == c) := by simp [List.isPrefixOf]
    rw [ew, ei, e]
    by_cases hc : c = d
    · subst hc
      exact .inr ⟨[], l, rfl, by simp, by simp⟩
    · have hb : (d == c) = false := by simpa using Ne.symm hc
      rw [hb, if_neg hc]
      rcases ih with ⟨h1, h2⟩ | ⟨p, t, h1, h2, h3⟩
      · exact .inl ⟨by simp [h1], by rw [h2]; rfl⟩
      · refine .inr ⟨c :: p, t, by simp [h1], ?_, by rw [h3]; rfl⟩
        have : ¬ ((p.length : Int) = -1) := by omega
        simp [h2, this]
theorem splitK_cut (d : UInt8) : ∀ (n : Nat) (l : Wd), l.length ≤ n → Lib.splitK [d] 0 (Lib.count l [d]) l = cutL d l ∧ (cutL d l).length = Lib.count l [d] + 1
  | n, l, hn => by
    rcases index_cut d l with ⟨h1, h2⟩ | ⟨p, t, h1, h2, h3⟩
    · rw [Lib.count_miss h1, h2]
      exact ⟨rfl, rfl⟩
    · have hl : l.length = p.length + 1 + t.length := by rw [h1]; simp; omega
      have hd : l.drop (p.length + [d].length) = t := by
        rw [h1, List.drop_append]
        simp
      have ht : l.take p.length = p := by
        rw [h1]
        simp
      rw [Lib.count_hit (by simp) h2, hd, Nat.add_comm]
      cases n with
      | zero => omega
      | succ n =>
        have ih := splitK_cut d n t (by omega)
        refine ⟨?_, by rw [h3, List.length_cons, ih.2]⟩
        rw [Lib.splitK]
        have hne : ¬ ((p.length : Int) = -1) := by omega
        rw [h2]
        simp only [beq_iff_eq, hne, if_false, Int.toNat_natCast, Nat.add_zero]
        rw [hd, h3, ih.1, ht]
theorem split_cut (d : UInt8) (x : Wd) : ((Lib.splitB (bs [d]) 0 (Lib.countB (bs x) (bs [d])) (bs x)).map Value.string) = strs (cutL d x) := by
  have h := Lib.splitB_data (bs [d]) 0 (Lib.countB (bs x) (bs [d])) (bs x)
  have h2 : Lib.countB (bs x) (bs [d]) = Lib.count x [d] := by
    unfold Lib.countB
    rw [bs_data, bs_data]
  rw [h2] at h ⊢
  rw [bs_data, bs_data, (splitK_cut d _ _ (Nat.le_refl _)).1] at h
  unfold strs
  rw [← h, List.map_map]
  refine List.map_congr_left fun b _ => ?_
  show Value.string b = Value.string (bs b.data.toList)
  congr 1
theorem split10_w (w : World) (x : Wd) (hm : MaxAt w) (hs : x.length < 4294967281) :
    Calls Tryz.prog 17 #[.string (bs x), .string { data := #[10] }] w fun e w' => e = .returned (.slice (some ⟨w.heap.size, 0, none⟩) (cutL 10 x).length (cutL 10 x).length) ∧ w' = w.alloc (.cells (strs (cutL 10 x)).toArray 9) := by
  obtain ⟨m, hm⟩ := hm
  have hc : Lib.countB (bs x) (bs [10]) + 1 = (cutL 10 x).length := (splitK_cut 10 _ x (Nat.le_refl _)).2.symm
  have h := Any.strings_Split { Tryz.laysM146 with } Tryz.laysM146.i9 (bs x) (bs [10]) m w (by rw [bs_size]; exact hs) hm (by decide)
  rw [split_cut, hc] at h
  exact h
end Go.Proofs.YtccoafacbbkooaaGreatDoor
