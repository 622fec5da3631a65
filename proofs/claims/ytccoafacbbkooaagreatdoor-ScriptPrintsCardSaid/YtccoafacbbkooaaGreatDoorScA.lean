/- Script: words, numbers, items as plain data; the two readers, and that they agree. No program in sight. -/
import Derived.Lib.Split
namespace Go.Proofs.YtccoafacbbkooaaGreatDoor

abbrev Wd := List UInt8
/-! ### Words -/
def consHead (c : UInt8) : List Wd → List Wd
  | [] => [[c]]
  | w :: r => (c :: w) :: r
/-- What stands between single blanks. -/
def wordsL : Wd → List Wd
  | [] => [[]]
  | c :: l => if c = 32 then [] :: wordsL l else consHead c (wordsL l)
def consPre (p : Wd) : List Wd → List Wd
  | [] => [p]
  | w :: r => (p ++ w) :: r
theorem wordsL_ne (l : Wd) : wordsL l ≠ [] := by
  cases l with
  | nil => simp [wordsL]
  | cons c l =>
    unfold wordsL
    split
    · simp
    · cases wordsL l <;> simp [consHead]
theorem consPre_nil {ws : List Wd} (h : ws ≠ []) : consPre [] ws = ws := by
  cases ws with
  | nil => exact absurd rfl h
  | cons w r => rfl
theorem consPre_cons (p : Wd) (c : UInt8) (ws : List Wd) : consPre p (consHead c ws) = consPre (p ++ [c]) ws := by
  cases ws <;> simp [consPre, consHead]
theorem words_blank (p l : Wd) : consPre p (wordsL (32 :: l)) = p :: wordsL l := by
  simp [wordsL, consPre]
theorem words_other (p l : Wd) (c : UInt8) (h : c ≠ 32) : consPre p (wordsL (c :: l)) = consPre (p ++ [c]) (wordsL l) := by
  rw [wordsL, if_neg h, consPre_cons]
theorem words_last (p : Wd) : consPre p (wordsL []) = [p] := by simp [wordsL, consPre]

/-! ### Numbers -/
def isDig (c : UInt8) : Bool := decide (48 ≤ c.toNat) && decide (c.toNat ≤ 57)
def valL (w : Wd) : Nat := w.foldl (fun n c => n * 10 + (c.toNat - 48)) 0
def formed (w : Wd) : Bool := decide (1 ≤ w.length) && decide (w.length ≤ 9) && !(decide (1 < w.length) && w.head? == some 48)
/-- A word's number. -/
def numL (w : Wd) : Option Nat := if formed w && w.all isDig then some (valL w) else none
theorem valL_snoc (w : Wd) (c : UInt8) : valL (w ++ [c]) = valL w * 10 + (c.toNat - 48) := by simp [valL]
theorem fold_lt : ∀ (w : Wd) (n : Nat), (∀ c ∈ w, isDig c = true) → w.foldl (fun n c => n * 10 + (c.toNat - 48)) n < (n + 1) * 10 ^ w.length
  | [], n, _ => by simp
  | c :: w, n, h => by
    have h1 := fold_lt w (n * 10 + (c.toNat - 48)) (fun x hx => h x (List.mem_cons_of_mem _ hx))
    have h2 := h c List.mem_cons_self
    unfold isDig at h2
    simp at h2
    rw [List.foldl_cons]
    refine Nat.lt_of_lt_of_le h1 ?_
    rw [List.length_cons, Nat.pow_succ, Nat.mul_comm (10 ^ w.length) 10, ← Nat.mul_assoc]
    exact Nat.mul_le_mul_right _ (by omega)
theorem valL_lt (w : Wd) (h : ∀ c ∈ w, isDig c = true) : valL w < 10 ^ w.length := by
  have := fold_lt w 0 h
  simpa [valL] using this

/-! ### Items -/
structure Cl where
  kind : Int
  page : Int
  pages : Int
  perm : Int
  pk : Int
  pn : Int
  addr : Int
  byte : Int
deriving DecidableEq
structure Itm where
  kind : Int
  who : Int
  call : Cl
  jk : Int
  jp : Int
  jn : Int
  n : Int
deriving DecidableEq
def c0 : Cl := ⟨0, 0, 0, 0, 0, 0, 0, 0⟩
def i0 : Itm := ⟨0, 0, c0, 0, 0, 0, 0⟩
abbrev kCore : Wd := [99, 111, 114, 101]
abbrev kDaemon : Wd := [100, 97, 101, 109, 111, 110]
abbrev kEvict : Wd := [101, 118, 105, 99, 116]
abbrev kRounds : Wd := [114, 111, 117, 110, 100, 115]
abbrev kMove : Wd := [109, 111, 118, 101]
abbrev kSplit : Wd := [115, 112, 108, 105, 116]
abbrev kJoin : Wd := [106, 111, 105, 110]
abbrev kCopy : Wd := [99, 111, 112, 121]
abbrev kMap : Wd := [109, 97, 112]
abbrev kUnmap : Wd := [117, 110, 109, 97, 112]
abbrev kProtect : Wd := [112, 114, 111, 116, 101, 99, 116]
abbrev kBind : Wd := [98, 105, 110, 100]
abbrev kLoad : Wd := [108, 111, 97, 100]
abbrev kStore : Wd := [115, 116, 111, 114, 101]
abbrev kLocal : Wd := [108, 111, 99, 97, 108]
abbrev kPrefer : Wd := [112, 114, 101, 102, 101, 114]
abbrev kMix : Wd := [109, 105, 120]

/-! ### The program's reader -/
structure Rd where
  ws : List Wd
  bad : Bool
def Rd.word (r : Rd) : Wd × Rd := match r.ws with
  | [] => ([], { r with bad := true })
  | w :: t => (w, { r with ws := t })
def Rd.number (r : Rd) : Int × Rd := match numL r.word.1 with
  | some n => (n, r.word.2)
  | none => (0, { r.word.2 with bad := true })
def permV (w : Wd) : Option Int := if w = [45] then some 0 else if w = [114] then some 1 else if w = [114, 119] then some 3 else none
def Rd.perm (r : Rd) : Int × Rd := match permV r.word.1 with
  | some p => (p, r.word.2)
  | none => (0, { r.word.2 with bad := true })
def kindV (w : Wd) : Option Int := if w = kLocal then some 0 else if w = kBind then some 1 else if w = kPrefer then some 2 else if w = kMix then some 3 else none
def Rd.policy (r : Rd) : (Int × Int) × Rd := match kindV r.word.1 with
  | some k => if k = 0 then ((0, 0), r.word.2) else ((k, r.word.2.number.1), r.word.2.number.2)
  | none => ((0, 0), { r.word.2 with bad := true })
def Rd.call (r : Rd) : Cl × Rd :=
  let w := r.word.1
  let r1 := r.word.2
  if w = kLoad then ({ c0 with kind := 5, addr := r1.number.1 }, r1.number.2)
  else if w = kStore then ({ c0 with kind := 6, addr := r1.number.1, byte := r1.number.2.number.1 }, r1.number.2.number.2)
  else
    let r3 := r1.number.2.number.2
    let c : Cl := { c0 with page := r1.number.1, pages := r1.number.2.number.1 }
    if w = kMap then ({ c with kind := 1, perm := r3.perm.1, pk := r3.perm.2.policy.1.1, pn := r3.perm.2.policy.1.2 }, r3.perm.2.policy.2)
    else if w = kUnmap then ({ c with kind := 2 }, r3)
    else if w = kProtect then ({ c with kind := 3, perm := r3.perm.1 }, r3.perm.2)
    else if w = kBind then ({ c with kind := 4, pk := r3.policy.1.1, pn := r3.policy.1.2 }, r3.policy.2)
    else (c, { r3 with bad := true })
def Rd.job (r : Rd) (k : Int) : Itm × Rd :=
  let x : Itm := { i0 with kind := 3, who := r.number.1, jk := k, jp := r.number.2.number.1 }
  if k = 2 then (x, r.number.2.number.2) else ({ x with jn := r.number.2.number.2.number.1 }, r.number.2.number.2.number.2)
def Rd.item (r : Rd) : Itm × Rd :=
  let w := r.word.1
  let r1 := r.word.2
  match numL w with
  | some n => ({ i0 with kind := 1, who := n, call := r1.call.1 }, r1.call.2)
  | none =>
    if w = kCore then ({ i0 with kind := 2, who := r1.number.1 }, r1.number.2)
    else if w = kDaemon then ({ i0 with kind := 4, who := r1.number.1 }, r1.number.2)
    else if w = kEvict then ({ i0 with kind := 5, who := r1.number.1, n := r1.number.2.number.1 }, r1.number.2.number.2)
    else if w = kRounds then ({ i0 with kind := 6, n := r1.number.1 }, r1.number.2)
    else if w = kMove then r1.job 1
    else if w = kSplit then r1.job 2
    else if w = kJoin then r1.job 3
    else if w = kCopy then r1.job 4
    else (i0, { r1 with bad := true })
/-- The program's answer. -/
def readP (ws : List Wd) : Option Itm := if (Rd.item ⟨ws, false⟩).2.bad || !(Rd.item ⟨ws, false⟩).2.ws.isEmpty then none else some (Rd.item ⟨ws, false⟩).1

/-! ### The reference's -/
def numsR : List Wd → Option (List Nat)
  | [] => some []
  | w :: t => match numL w, numsR t with
    | some n, some l => some (n :: l)
    | _, _ => none
def polR : List Wd → Option (Int × Int)
  | [a] => if a = kLocal then some (0, 0) else none
  | [a, b] => match numL b with
    | none => none
    | some n => if a = kBind then some (1, (n : Int)) else if a = kPrefer then some (2, (n : Int)) else if a = kMix then some (3, (n : Int)) else none
  | _ => none
def callR : List Wd → Option Cl
  | [] => none
  | w :: l =>
    if w = kLoad then (match l with
      | [a] => (numL a).map fun (n : Nat) => { c0 with kind := 5, addr := (n : Int) }
      | _ => none)
    else if w = kStore then (match l with
      | [a, b] => match numL a, numL b with
        | some n, some m => some { c0 with kind := 6, addr := n, byte := m }
        | _, _ => none
      | _ => none)
    else match l with
      | a :: b :: t => match numL a, numL b with
        | some n, some m =>
          let c : Cl := { c0 with page := n, pages := m }
          if w = kUnmap then (if t = [] then some { c with kind := 2 } else none)
          else if w = kProtect then (match t with
            | [p] => (permV p).map fun p => { c with kind := 3, perm := p }
            | _ => none)
          else if w = kBind then (polR t).map fun q => { c with kind := 4, pk := q.1, pn := q.2 }
          else if w = kMap then (match t with
            | p :: t => match permV p, polR t with
              | some p, some q => some { c with kind := 1, perm := p, pk := q.1, pn := q.2 }
              | _, _ => none
            | _ => none)
          else none
        | _, _ => none
      | _ => none
def jobK (w : Wd) : Option Int := if w = kMove then some 1 else if w = kSplit then some 2 else if w = kJoin then some 3 else if w = kCopy then some 4 else none
def readR : List Wd → Option Itm
  | [] => none
  | w :: l =>
    match numL w with
    | some who => (callR l).map fun c => { i0 with kind := 1, who := who, call := c }
    | none => match numsR l with
      | none => none
      | some ns =>
        if w = kCore then (match ns with | [a] => some { i0 with kind := 2, who := a } | _ => none)
        else if w = kDaemon then (match ns with | [a] => some { i0 with kind := 4, who := a } | _ => none)
        else if w = kEvict then (match ns with | [a, b] => some { i0 with kind := 5, who := a, n := b } | _ => none)
        else if w = kRounds then (match ns with | [a] => some { i0 with kind := 6, n := a } | _ => none)
        else match jobK w with
          | none => none
          | some k => if k = 2 then (match ns with | [a, b] => some { i0 with kind := 3, who := a, jk := 2, jp := b } | _ => none)
            else (match ns with | [a, b, c] => some { i0 with kind := 3, who := a, jk := k, jp := b, jn := c } | _ => none)

/-! ### They agree -/
/-- The outcome of a reader that has come to its end. -/
def fin {α : Type} (x : α × Rd) : Option α := if x.2.bad || !x.2.ws.isEmpty then none else some x.1
theorem fin_bad {α : Type} {x : α × Rd} (h : x.2.bad = true) : fin x = none := by
  unfold fin
  rw [h]; rfl
theorem num_nil : numL [] = none := rfl
theorem word_bad {r : Rd} (h : r.bad = true) : r.word.2.bad = true := by
  unfold Rd.word
  split
  · rfl
  · exact h
theorem number_bad {r : Rd} (h : r.bad = true) : r.number.2.bad = true := by
  unfold Rd.number
  split
  · exact word_bad h
  · rfl
theorem perm_bad {r : Rd} (h : r.bad = true) : r.perm.2.bad = true := by
  unfold Rd.perm
  split
  · exact word_bad h
  · rfl
theorem policy_bad {r : Rd} (h : r.bad = true) : r.policy.2.bad = true := by
  unfold Rd.policy
  split
  · split
    · exact word_bad h
    · exact number_bad (word_bad h)
  · rfl
theorem number_nil (b : Bool) : Rd.number ⟨[], b⟩ = (0, ⟨[], true⟩) := rfl
theorem number_some {w : Wd} {n : Nat} (h : numL w = some n) (t : List Wd) (b : Bool) : Rd.number ⟨w :: t, b⟩ = ((n : Int), ⟨t, b⟩) := by
  simp [Rd.number, Rd.word, h]
theorem number_none {w : Wd} (h : numL w = none) (t : List Wd) (b : Bool) : Rd.number ⟨w :: t, b⟩ = (0, ⟨t, true⟩) := by
  simp [Rd.number, Rd.word, h]
theorem fin_number (l : List Wd) : fin (Rd.number ⟨l, false⟩) = match l with
    | [a] => (numL a).map fun (n : Nat) => (n : Int)
    | _ => none := by
  match l with
  | [] => rfl
  | [a] => cases h : numL a <;> simp [number_some, number_none, h, fin]
  | a :: b :: t => cases h : numL a <;> simp [number_some, number_none, h, fin]
theorem fin_policy (l : List Wd) : fin (Rd.policy ⟨l, false⟩) = polR l := by
  match l with
  | [] => rfl
  | a :: t =>
    have hw : Rd.word ⟨a :: t, false⟩ = (a, ⟨t, false⟩) := rfl
    unfold Rd.policy
    rw [hw]
    simp only
    unfold kindV
    by_cases h1 : a = kLocal
    · rw [if_pos h1]
      subst h1
      match t with
      | [] => rfl
      | [b] => cases h : numL b <;> simp [polR, h, fin]
      | b :: c :: t => simp [polR, fin]
    · rw [if_neg h1]
      by_cases h2 : a = kBind
      · rw [if_pos h2]
        subst h2
        match t with
        | [] => rfl
        | [b] => cases h : numL b <;> simp [polR, h, fin, number_some, number_none]
        | b :: c :: t => cases h : numL b <;> simp [polR, h, fin, number_some, number_none]
      · rw [if_neg h2]
        by_cases h3 : a = kPrefer
        · rw [if_pos h3]
          subst h3
          match t with
          | [] => rfl
          | [b] => cases h : numL b <;> simp [polR, h, fin, number_some, number_none]
          | b :: c :: t => cases h : numL b <;> simp [polR, h, fin, number_some, number_none]
        · rw [if_neg h3]
          by_cases h4 : a = kMix
          · rw [if_pos h4]
            subst h4
            match t with
            | [] => rfl
            | [b] => cases h : numL b <;> simp [polR, h, fin, number_some, number_none]
            | b :: c :: t => cases h : numL b <;> simp [polR, h, fin, number_some, number_none]
          · rw [if_neg h4]
            match t with
            | [] => simp [polR, h1, fin]
            | [b] => cases h : numL b <;> simp [polR, h, h2, h3, h4, fin]
            | b :: c :: t => simp [polR, fin]
theorem fin_map {α β : Type} (x : α × Rd) (f : α → β) : fin (f x.1, x.2) = (fin x).map f := by
  unfold fin
  simp only
  split <;> rfl
theorem fin_call (l : List Wd) : fin (Rd.call ⟨l, false⟩) = callR l := by
  match l with
  | [] => rfl
  | w :: t =>
    have hw : Rd.word ⟨w :: t, false⟩ = (w, ⟨t, false⟩) := rfl
    unfold Rd.call
    rw [hw]
    simp only
    by_cases h1 : w = kLoad
    · rw [if_pos h1]
      have := fin_map (Rd.number ⟨t, false⟩) (fun a => ({ c0 with kind := 5, addr := a } : Cl))
      rw [this, fin_number]
      subst h1
      match t with
      | [] => rfl
      | [a] => cases h : numL a <;> simp [callR, h]
      | a :: b :: t => simp [callR]
    · rw [if_neg h1]
      by_cases h2 : w = kStore
      · rw [if_pos h2]
        subst h2
        match t with
        | [] => rfl
        | [a] => cases h : numL a <;> simp [callR, h, fin, number_some, number_none, number_nil]
        | [a, b] => cases h : numL a <;> cases h' : numL b <;> simp [callR, h, h', fin, number_some, number_none]
        | a :: b :: c :: t => cases h : numL a <;> cases h' : numL b <;> simp [callR, h, h', fin, number_some, number_none]
      · rw [if_neg h2]
        match t with
        | [] =>
          refine Eq.trans (fin_bad ?_) (by simp [callR, h1, h2])
          have hb : (Rd.number (Rd.number ⟨[], false⟩).2).2.bad = true := rfl
          split
          · exact policy_bad (perm_bad hb)
          · split
            · exact hb
            · split
              · exact perm_bad hb
              · split
                · exact policy_bad hb
                · rfl
        | [a] =>
          refine Eq.trans (fin_bad ?_) (by simp [callR, h1, h2])
          have hb : (Rd.number (Rd.number ⟨[a], false⟩).2).2.bad = true := by cases h : numL a <;> simp [number_some, number_none, h, number_nil]
          split
          · exact policy_bad (perm_bad hb)
          · split
            · exact hb
            · split
              · exact perm_bad hb
              · split
                · exact policy_bad hb
                · rfl
        | a :: b :: u =>
          cases ha : numL a with
          | none =>
            refine Eq.trans (fin_bad ?_) (by simp [callR, h1, h2, ha])
            have hb : (Rd.number (Rd.number ⟨a :: b :: u, false⟩).2).2.bad = true := number_bad (by simp [number_none, ha])
            split
            · exact policy_bad (perm_bad hb)
            · split
              · exact hb
              · split
                · exact perm_bad hb
                · split
                  · exact policy_bad hb
                  · rfl
          | some n =>
            cases hb2 : numL b with
            | none =>
              refine Eq.trans (fin_bad ?_) (by simp [callR, h1, h2, ha, hb2])
              have hb : (Rd.number (Rd.number ⟨a :: b :: u, false⟩).2).2.bad = true := by rw [number_some ha]; simp [number_none, hb2]
              split
              · exact policy_bad (perm_bad hb)
              · split
                · exact hb
                · split
                  · exact perm_bad hb
                  · split
                    · exact policy_bad hb
                    · rfl
            | some m =>
              rw [number_some ha]
              simp only
              rw [number_some hb2]
              simp only
              simp only [callR, if_neg h1, if_neg h2, ha, hb2]
              by_cases h3 : w = kMap
              · subst h3
                rw [if_pos rfl, if_neg (by decide), if_neg (by decide), if_neg (by decide), if_pos rfl]
                match u with
                | [] => rfl
                | p :: t =>
                  cases hp : permV p with
                  | none =>
                    simp only [hp]
                    exact fin_bad (policy_bad (by simp [Rd.perm, Rd.word, hp]))
                  | some pv =>
                    have hpp : Rd.perm ⟨p :: t, false⟩ = (pv, ⟨t, false⟩) := by simp [Rd.perm, Rd.word, hp]
                    rw [hpp]
                    have := fin_map (Rd.policy ⟨t, false⟩) (fun q => ({ c0 with kind := 1, page := n, pages := m, perm := pv, pk := q.1, pn := q.2 } : Cl))
                    refine Eq.trans this ?_
                    rw [fin_policy]
                    simp only [hp]
                    cases polR t <;> rfl
              · rw [if_neg h3]
                by_cases h4 : w = kUnmap
                · rw [if_pos h4, if_pos h4]
                  cases u <;> simp [fin]
                · rw [if_neg h4, if_neg h4]
                  by_cases h5 : w = kProtect
                  · rw [if_pos h5, if_pos h5]
                    match u with
                    | [] => rfl
                    | [p] => cases hp : permV p <;> simp [Rd.perm, Rd.word, hp, fin]
                    | p :: q :: t => cases hp : permV p <;> simp [Rd.perm, Rd.word, hp, fin]
                  · rw [if_neg h5, if_neg h5]
                    by_cases h6 : w = kBind
                    · rw [if_pos h6, if_pos h6]
                      have := fin_map (Rd.policy ⟨u, false⟩) (fun q => ({ c0 with kind := 4, page := n, pages := m, pk := q.1, pn := q.2 } : Cl))
                      refine Eq.trans this ?_
                      rw [fin_policy]
                    · rw [if_neg h6, if_neg h6, if_neg h3]
                      rfl
theorem numsR_len : ∀ {l : List Wd} {ns : List Nat}, numsR l = some ns → ns.length = l.length
  | [], ns, h => by simp [numsR] at h; subst h; rfl
  | w :: t, ns, h => by
    unfold numsR at h
    split at h
    · rename_i n l' h1 h2
      injection h with h
      subst h
      simp [numsR_len h2]
    · cases h
/-- Two numbers, then the end. -/
theorem fin_job (l : List Wd) (k : Int) : fin (Rd.job ⟨l, false⟩ k) = match numsR l with
    | none => none
    | some ns => if k = 2 then (match ns with | [a, b] => some { i0 with kind := 3, who := a, jk := 2, jp := b } | _ => none)
            else (match ns with | [a, b, c] => some { i0 with kind := 3, who := a, jk := k, jp := b, jn := c } | _ => none) := by
  unfold Rd.job
  by_cases hk : k = 2
  · subst hk
    match l with
    | [] => rfl
    | [a] => cases ha : numL a <;> simp [numsR, ha, number_some, number_none, number_nil, fin]
    | [a, b] => cases ha : numL a <;> cases hb : numL b <;> simp [numsR, ha, hb, number_some, number_none, fin]
    | a :: b :: c :: t =>
      cases ha : numL a <;> cases hb : numL b <;> cases hc : numL c <;> cases ht : numsR t <;> simp [numsR, ha, hb, hc, ht, number_some, number_none, fin]
  · simp only [hk, if_false]
    match l with
    | [] => rfl
    | [a] => cases ha : numL a <;> simp [numsR, ha, number_some, number_none, number_nil, fin]
    | [a, b] => cases ha : numL a <;> cases hb : numL b <;> simp [numsR, ha, hb, number_some, number_none, number_nil, fin]
    | [a, b, c] => cases ha : numL a <;> cases hb : numL b <;> cases hc : numL c <;> simp [numsR, ha, hb, hc, number_some, number_none, fin]
    | a :: b :: c :: d :: t =>
      cases ha : numL a <;> cases hb : numL b <;> cases hc : numL c <;> cases hd : numL d <;> cases ht : numsR t <;> simp [numsR, ha, hb, hc, hd, ht, number_some, number_none, fin]
theorem agree (ws : List Wd) (h0 : ws ≠ []) : readP ws = readR ws := by
  have e0 : readP ws = fin (Rd.item ⟨ws, false⟩) := rfl
  rw [e0]
  match ws with
  | [] => exact absurd rfl h0
  | w :: l =>
    have hw : Rd.word ⟨w :: l, false⟩ = (w, ⟨l, false⟩) := rfl
    unfold Rd.item readR
    rw [hw]
    simp only
    cases hn : numL w with
    | some who =>
      simp only
      have := fin_map (Rd.call ⟨l, false⟩) (fun c => ({ i0 with kind := 1, who := (who : Int), call := c } : Itm))
      rw [this, fin_call]
    | none =>
      simp only
      have one : ∀ f : Int → Itm, fin (f (Rd.number ⟨l, false⟩).1, (Rd.number ⟨l, false⟩).2) = match numsR l with
          | none => none
          | some ns => match ns with | [a] => some (f a) | _ => none := fun f => by
        rw [fin_map, fin_number]
        match l with
        | [] => rfl
        | [a] => cases ha : numL a <;> simp [numsR, ha]
        | a :: b :: t => cases ha : numL a <;> cases hb : numL b <;> cases ht : numsR t <;> simp [numsR, ha, hb, ht]
      have two : fin (({ i0 with kind := 5, who := (Rd.number ⟨l, false⟩).1, n := (Rd.number (Rd.number ⟨l, false⟩).2).1 } : Itm), (Rd.number (Rd.number ⟨l, false⟩).2).2) = match numsR l with
          | none => none
          | some ns => match ns with | [a, b] => some { i0 with kind := 5, who := a, n := b } | _ => none := by
        match l with
        | [] => rfl
        | [a] => cases ha : numL a <;> simp [numsR, ha, number_some, number_none, number_nil, fin]
        | [a, b] => cases ha : numL a <;> cases hb : numL b <;> simp [numsR, ha, hb, number_some, number_none, fin]
        | a :: b :: c :: t =>
          cases ha : numL a <;> cases hb : numL b <;> cases hc : numL c <;> cases ht : numsR t <;> simp [numsR, ha, hb, hc, ht, number_some, number_none, fin]
      by_cases h1 : w = kCore
      · rw [if_pos h1]
        refine (one (fun a => { i0 with kind := 2, who := a })).trans ?_
        cases numsR l with
        | none => rfl
        | some ns => simp only [h1, if_true]
      · rw [if_neg h1]
        by_cases h2 : w = kDaemon
        · rw [if_pos h2]
          refine (one (fun a => { i0 with kind := 4, who := a })).trans ?_
          cases numsR l with
          | none => rfl
          | some ns => simp only [h2, if_true]; rfl
        · rw [if_neg h2]
          by_cases h3 : w = kEvict
          · rw [if_pos h3]
            refine two.trans ?_
            cases numsR l with
            | none => rfl
            | some ns => simp only [h3, if_true]; rfl
          · rw [if_neg h3]
            by_cases h4 : w = kRounds
            · rw [if_pos h4]
              refine (one (fun a => { i0 with kind := 6, n := a })).trans ?_
              cases numsR l with
              | none => rfl
              | some ns => simp only [h4, if_true]; rfl
            · rw [if_neg h4]
              by_cases h5 : w = kMove
              · rw [if_pos h5, fin_job]
                subst h5
                cases numsR l <;> rfl
              · rw [if_neg h5]
                by_cases h6 : w = kSplit
                · rw [if_pos h6, fin_job]
                  subst h6
                  cases numsR l <;> rfl
                · rw [if_neg h6]
                  by_cases h7 : w = kJoin
                  · rw [if_pos h7, fin_job]
                    subst h7
                    cases numsR l <;> rfl
                  · rw [if_neg h7]
                    by_cases h8 : w = kCopy
                    · rw [if_pos h8, fin_job]
                      subst h8
                      cases numsR l <;> rfl
                    · rw [if_neg h8]
                      refine (fin_bad rfl).trans ?_
                      cases numsR l with
                      | none => rfl
                      | some ns =>
                        have hj : jobK w = none := by unfold jobK; rw [if_neg h5, if_neg h6, if_neg h7, if_neg h8]
                        simp only [if_neg h1, if_neg h2, if_neg h3, if_neg h4, hj]
end Go.Proofs.YtccoafacbbkooaaGreatDoor
