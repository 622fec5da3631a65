/- Script: items as lines: the program's, the reference's, and that they agree. No program in sight. -/
import Derived.Test.YtccoafacbbkooaaGreatDoorScS
import Derived.Lib.ItoaNum
import Derived.Lib.Join
namespace Go.Proofs.YtccoafacbbkooaaGreatDoor

def dg (n : Int) : Wd := Lib.itoa n
def joinW (l : List Wd) : Wd := Lib.join l [32]
theorem joinW2 (a b : Wd) : joinW [a, b] = a ++ (32 :: b) := by simp [joinW, Lib.join, List.intercalate]
theorem joinW3 (a b c : Wd) : joinW [a, b, c] = a ++ (32 :: (b ++ (32 :: c))) := by simp [joinW, Lib.join, List.intercalate]
theorem joinW4 (a b c d : Wd) : joinW [a, b, c, d] = a ++ (32 :: (b ++ (32 :: (c ++ (32 :: d))))) := by simp [joinW, Lib.join, List.intercalate]

/-! ### The program's -/
def permP (p : Int) : Wd := if p = 0 then [45] else if p = 1 then [114] else if p = 3 then [114, 119] else []
def polP (k n : Int) : Wd :=
  if k < 0 then [] else if 4 ≤ k then [] else if k = 0 then kLocal else if k = 1 then joinW [kBind, dg n] else if k = 2 then joinW [kPrefer, dg n] else joinW [kMix, dg n]
def pagesP (c : Cl) : Wd := joinW [dg c.page, dg c.pages]
def callP (c : Cl) : Wd :=
  if c.kind = 1 then joinW [kMap, pagesP c, permP c.perm, polP c.pk c.pn]
  else if c.kind = 2 then joinW [kUnmap, pagesP c]
  else if c.kind = 3 then joinW [kProtect, pagesP c, permP c.perm]
  else if c.kind = 4 then joinW [kBind, pagesP c, polP c.pk c.pn]
  else if c.kind = 5 then joinW [kLoad, dg c.addr]
  else if c.kind = 6 then joinW [kStore, dg c.addr, dg c.byte]
  else []
def placeP (who jp : Int) : Wd := joinW [dg who, dg jp]
def jobP (who jk jp jn : Int) : Wd :=
  if jk = 1 then joinW [kMove, placeP who jp, dg jn]
  else if jk = 2 then joinW [kSplit, placeP who jp]
  else if jk = 3 then joinW [kJoin, placeP who jp, dg jn]
  else if jk = 4 then joinW [kCopy, placeP who jp, dg jn]
  else []
def lineP (x : Itm) : Wd :=
  if x.kind = 1 then joinW [dg x.who, callP x.call]
  else if x.kind = 2 then joinW [kCore, dg x.who]
  else if x.kind = 4 then joinW [kDaemon, dg x.who]
  else if x.kind = 5 then joinW [kEvict, dg x.who, dg x.n]
  else if x.kind = 6 then joinW [kRounds, dg x.n]
  else if x.kind = 3 then jobP x.who x.jk x.jp x.jn
  else []
/-- The program's Line. -/
def LineP (x : Itm) : Option Wd := if readP (wordsL (lineP x)) = some x then some (lineP x) else none

/-! ### The reference's -/
def may (n : Int) : Bool := decide (0 ≤ n) && decide (n < 1000000000)
def permT (p : Int) : Wd := if p = 0 then [45] else if p = 1 then [114] else [114, 119]
def polT (k n : Int) : Wd := if k = 1 then kBind ++ 32 :: dg n else if k = 2 then kPrefer ++ 32 :: dg n else if k = 3 then kMix ++ 32 :: dg n else kLocal
def pagesT (c : Cl) : Wd := 32 :: (dg c.page ++ 32 :: dg c.pages)
def callT (c : Cl) : Wd :=
  if c.kind = 1 then kMap ++ pagesT c ++ 32 :: (permT c.perm ++ 32 :: polT c.pk c.pn)
  else if c.kind = 2 then kUnmap ++ pagesT c
  else if c.kind = 3 then kProtect ++ pagesT c ++ 32 :: permT c.perm
  else if c.kind = 4 then kBind ++ pagesT c ++ 32 :: polT c.pk c.pn
  else if c.kind = 5 then kLoad ++ 32 :: dg c.addr
  else kStore ++ 32 :: (dg c.addr ++ 32 :: dg c.byte)
def toT (x : Itm) : Wd := 32 :: (dg x.jp ++ 32 :: dg x.jn)
def textT (x : Itm) : Wd :=
  if x.kind = 1 then dg x.who ++ 32 :: callT x.call
  else if x.kind = 2 then kCore ++ 32 :: dg x.who
  else if x.kind = 4 then kDaemon ++ 32 :: dg x.who
  else if x.kind = 5 then kEvict ++ 32 :: (dg x.who ++ 32 :: dg x.n)
  else if x.kind = 6 then kRounds ++ 32 :: dg x.n
  else if x.jk = 1 then kMove ++ 32 :: (dg x.who ++ toT x)
  else if x.jk = 2 then kSplit ++ 32 :: (dg x.who ++ 32 :: dg x.jp)
  else if x.jk = 3 then kJoin ++ 32 :: (dg x.who ++ toT x)
  else kCopy ++ 32 :: (dg x.who ++ toT x)
def mayI (x : Itm) : Bool := may x.who && may x.n && may x.call.page && may x.call.pages && may x.call.addr && may x.call.byte && may x.call.pn && may x.jp && may x.jn
/-- The reference's Line. -/
def LineR (x : Itm) : Option Wd := if mayI x = true then (if readR (wordsL (textT x)) = some x then some (textT x) else none) else none

/-! ### What can be read -/
theorem numL_lt {w : Wd} {n : Nat} (h : numL w = some n) : n < 1000000000 := by
  unfold numL at h
  split at h
  · rename_i hf
    injection h with h
    subst h
    rw [Bool.and_eq_true, List.all_eq_true] at hf
    have h1 := valL_lt w hf.2
    have h2 : w.length ≤ 9 := by
      have := hf.1
      unfold formed at this
      simp only [Bool.and_eq_true, decide_eq_true_eq] at this
      exact this.1.2
    have h3 : 10 ^ w.length ≤ 10 ^ 9 := Nat.pow_le_pow_right (by omega) h2
    omega
  · cases h
theorem numL_may {w : Wd} {n : Nat} (h : numL w = some n) : may (n : Int) = true := by
  have := numL_lt h
  unfold may
  rw [Bool.and_eq_true]
  exact ⟨decide_eq_true (by omega), decide_eq_true (by omega)⟩
theorem numsR_may : ∀ {l : List Wd} {ns : List Nat}, numsR l = some ns → ∀ n ∈ ns, may (n : Int) = true
  | [], ns, h, n, hn => by
    simp [numsR] at h
    subst h
    cases hn
  | w :: t, ns, h, n, hn => by
    unfold numsR at h
    split at h
    · rename_i m l h1 h2
      have h := Option.some.inj h
      subst h
      rcases List.mem_cons.1 hn with rfl | hn
      · exact numL_may h1
      · exact numsR_may h2 n hn
    · cases h
theorem may0 : may 0 = true := rfl
/-- A call that can be read. -/
structure GoodC (c : Cl) : Prop where
  kind : c.kind = 1 ∨ c.kind = 2 ∨ c.kind = 3 ∨ c.kind = 4 ∨ c.kind = 5 ∨ c.kind = 6
  nums : may c.page = true ∧ may c.pages = true ∧ may c.addr = true ∧ may c.byte = true ∧ may c.pn = true
  perm : c.perm = 0 ∨ c.perm = 1 ∨ c.perm = 3
  pk : c.pk = 0 ∨ c.pk = 1 ∨ c.pk = 2 ∨ c.pk = 3
theorem permV_val {p : Wd} {v : Int} (h : permV p = some v) : v = 0 ∨ v = 1 ∨ v = 3 := by
  unfold permV at h
  split at h
  · injection h with h; omega
  · split at h
    · injection h with h; omega
    · split at h
      · injection h with h; omega
      · cases h
theorem polR_val {l : List Wd} {q : Int × Int} (h : polR l = some q) : (q.1 = 0 ∨ q.1 = 1 ∨ q.1 = 2 ∨ q.1 = 3) ∧ may q.2 = true := by
  match l with
  | [] => simp [polR] at h
  | [a] =>
    simp only [polR] at h
    split at h
    · injection h with h; subst h; exact ⟨.inl rfl, rfl⟩
    · cases h
  | [a, b] =>
    simp only [polR] at h
    split at h
    · cases h
    · rename_i n hn
      have := numL_may hn
      split at h
      · injection h with h; subst h; exact ⟨.inr (.inl rfl), this⟩
      · split at h
        · injection h with h; subst h; exact ⟨.inr (.inr (.inl rfl)), this⟩
        · split at h
          · injection h with h; subst h; exact ⟨.inr (.inr (.inr rfl)), this⟩
          · cases h
  | a :: b :: c :: t => simp [polR] at h
theorem callR_good {l : List Wd} {c : Cl} (h : callR l = some c) : GoodC c := by
  match l with
  | [] => simp [callR] at h
  | w :: l =>
    simp only [callR] at h
    split at h
    · split at h
      · simp only [Option.map_eq_some_iff] at h
        obtain ⟨n, hn, rfl⟩ := h
        exact ⟨by simp, ⟨rfl, rfl, numL_may hn, rfl, rfl⟩, .inl rfl, .inl rfl⟩
      · cases h
    · split at h
      · split at h
        · split at h
          · rename_i n m hn hm
            injection h with h
            subst h
            exact ⟨by simp, ⟨rfl, rfl, numL_may hn, numL_may hm, rfl⟩, .inl rfl, .inl rfl⟩
          · cases h
        · cases h
      · split at h
        · split at h
          · rename_i n m hn hm
            have h1 := numL_may hn
            have h2 := numL_may hm
            split at h
            · split at h
              · injection h with h
                subst h
                exact ⟨by simp, ⟨h1, h2, rfl, rfl, rfl⟩, .inl rfl, .inl rfl⟩
              · cases h
            · split at h
              · split at h
                · rename_i p
                  simp only [Option.map_eq_some_iff] at h
                  obtain ⟨v, hv, rfl⟩ := h
                  exact ⟨by simp, ⟨h1, h2, rfl, rfl, rfl⟩, permV_val hv, .inl rfl⟩
                · cases h
              · split at h
                · simp only [Option.map_eq_some_iff] at h
                  obtain ⟨q, hq, rfl⟩ := h
                  have h3 := polR_val hq
                  exact ⟨by simp, ⟨h1, h2, rfl, rfl, h3.2⟩, .inl rfl, h3.1⟩
                · split at h
                  · split at h
                    · split at h
                      · rename_i v q hv hq
                        injection h with h
                        subst h
                        have h3 := polR_val hq
                        exact ⟨by simp, ⟨h1, h2, rfl, rfl, h3.2⟩, permV_val hv, h3.1⟩
                      · cases h
                    · cases h
                  · cases h
          · cases h
        · cases h
/-- An item that can be read. -/
structure GoodI (x : Itm) : Prop where
  nums : may x.who = true ∧ may x.n = true ∧ may x.jp = true ∧ may x.jn = true ∧ may x.call.page = true ∧ may x.call.pages = true ∧ may x.call.addr = true ∧ may x.call.byte = true ∧ may x.call.pn = true
  kind : (x.kind = 1 ∧ GoodC x.call) ∨ x.kind = 2 ∨ x.kind = 4 ∨ x.kind = 5 ∨ x.kind = 6 ∨ (x.kind = 3 ∧ (x.jk = 1 ∨ x.jk = 2 ∨ x.jk = 3 ∨ x.jk = 4))
theorem jobK_val {w : Wd} {k : Int} (h : jobK w = some k) : k = 1 ∨ k = 2 ∨ k = 3 ∨ k = 4 := by
  unfold jobK at h
  split at h
  · injection h with h; omega
  · split at h
    · injection h with h; omega
    · split at h
      · injection h with h; omega
      · split at h
        · injection h with h; omega
        · cases h
theorem readR_good {l : List Wd} {x : Itm} (h : readR l = some x) : GoodI x := by
  match l with
  | [] => simp [readR] at h
  | w :: l =>
    simp only [readR] at h
    split at h
    · rename_i who hw
      simp only [Option.map_eq_some_iff] at h
      obtain ⟨c, hc, rfl⟩ := h
      have g := callR_good hc
      obtain ⟨a1, a2, a3, a4, a5⟩ := g.nums
      exact ⟨⟨numL_may hw, rfl, rfl, rfl, a1, a2, a3, a4, a5⟩, .inl ⟨rfl, g⟩⟩
    · split at h
      · cases h
      · rename_i ns hns
        have hm := numsR_may hns
        split at h
        · split at h
          · injection h with h
            subst h
            exact ⟨⟨hm _ (by simp), rfl, rfl, rfl, rfl, rfl, rfl, rfl, rfl⟩, .inr (.inl rfl)⟩
          · cases h
        · split at h
          · split at h
            · injection h with h
              subst h
              exact ⟨⟨hm _ (by simp), rfl, rfl, rfl, rfl, rfl, rfl, rfl, rfl⟩, .inr (.inr (.inl rfl))⟩
            · cases h
          · split at h
            · split at h
              · injection h with h
                subst h
                exact ⟨⟨hm _ (by simp), hm _ (by simp), rfl, rfl, rfl, rfl, rfl, rfl, rfl⟩, .inr (.inr (.inr (.inl rfl)))⟩
              · cases h
            · split at h
              · split at h
                · injection h with h
                  subst h
                  exact ⟨⟨rfl, hm _ (by simp), rfl, rfl, rfl, rfl, rfl, rfl, rfl⟩, .inr (.inr (.inr (.inr (.inl rfl))))⟩
                · cases h
              · split at h
                · cases h
                · rename_i k hk
                  split at h
                  · split at h
                    · injection h with h
                      subst h
                      exact ⟨⟨hm _ (by simp), rfl, hm _ (by simp), rfl, rfl, rfl, rfl, rfl, rfl⟩, .inr (.inr (.inr (.inr (.inr ⟨rfl, .inr (.inl rfl)⟩))))⟩
                    · cases h
                  · split at h
                    · injection h with h
                      subst h
                      exact ⟨⟨hm _ (by simp), rfl, hm _ (by simp), hm _ (by simp), rfl, rfl, rfl, rfl, rfl⟩, .inr (.inr (.inr (.inr (.inr ⟨rfl, jobK_val hk⟩))))⟩
                    · cases h
theorem good_may {x : Itm} (h : GoodI x) : mayI x = true := by
  obtain ⟨a1, a2, a3, a4, a5, a6, a7, a8, a9⟩ := h.nums
  simp [mayI, a1, a2, a3, a4, a5, a6, a7, a8, a9]
theorem perm_same {p : Int} (h : p = 0 ∨ p = 1 ∨ p = 3) : permP p = permT p := by
  rcases h with rfl | rfl | rfl <;> rfl
theorem pol_same {k n : Int} (h : k = 0 ∨ k = 1 ∨ k = 2 ∨ k = 3) : polP k n = polT k n := by
  rcases h with rfl | rfl | rfl | rfl <;> simp [polP, polT, joinW2]
theorem call_same {c : Cl} (h : GoodC c) : callP c = callT c := by
  have hp := perm_same h.perm
  have hq := pol_same (n := c.pn) h.pk
  rcases h.kind with k | k | k | k | k | k <;> simp [callP, callT, k, joinW2, joinW3, joinW4, pagesP, pagesT, hp, hq]
theorem line_same {x : Itm} (h : GoodI x) : lineP x = textT x := by
  rcases h.kind with ⟨k, g⟩ | k | k | k | k | ⟨k, hj⟩
  · simp [lineP, textT, k, joinW2, call_same g]
  · simp [lineP, textT, k, joinW2]
  · simp [lineP, textT, k, joinW2]
  · simp [lineP, textT, k, joinW3]
  · simp [lineP, textT, k, joinW2]
  · rcases hj with j | j | j | j <;> simp [lineP, textT, jobP, k, j, joinW2, joinW3, placeP, toT]
theorem Line_same (x : Itm) : LineP x = LineR x := by
  have e : ∀ w : Wd, readP (wordsL w) = readR (wordsL w) := fun w => agree _ (wordsL_ne w)
  unfold LineP LineR
  rw [e]
  by_cases h : readR (wordsL (lineP x)) = some x
  · have g := readR_good h
    have hs := line_same g
    rw [if_pos h, if_pos (good_may g), ← hs, if_pos h]
  · rw [if_neg h]
    split
    · split
      · rename_i h2
        have g := readR_good h2
        rw [← line_same g] at h2
        exact absurd h2 h
      · rfl
    · rfl
end Go.Proofs.YtccoafacbbkooaaGreatDoor
