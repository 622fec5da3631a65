/- Combine: what is done to one, on plain data. -/
import Derived.Test.YtaibhhppdmncfaaCbD
namespace Go.Proofs.Ytaibhhppdmncfaa
open Go.RowKit Go.Maps

abbrev Srt (l : List Sl) : Prop := l.Pairwise (fun a b => a.core < b.core)
theorem slotAt_iff {l : List Sl} (h : Srt l) {j : Nat} {y : Sl} : slotAt l j = some y ↔ y ∈ l ∧ y.core = j :=
  ⟨slotAt_core, fun ⟨h1, h2⟩ => by rw [← h2]; exact slotAt_mem h h1⟩
theorem srt_len : ∀ (l : List Sl) (a n : Nat), Srt l → (∀ x ∈ l, a ≤ x.core ∧ x.core < n) → a ≤ n → l.length + a ≤ n
  | [], a, n, _, _, h => by simpa using h
  | x :: l, a, n, hs, hb, h => by
    have h1 := List.pairwise_cons.1 hs
    have h2 := hb x List.mem_cons_self
    have h3 := srt_len l (x.core + 1) n h1.2 (fun y hy => ⟨h1.1 y hy, (hb y (List.mem_cons_of_mem _ hy)).2⟩) (by omega)
    simp only [List.length_cons]
    omega
theorem Cb.own_lt {s : Cb} {i : Nat} (h : s.own i = true) : i < s.cores := by
  unfold Cb.own at h
  simp at h
  omega
theorem Cb.own_nn {s : Cb} {i : Int} (h : s.own i = true) : 0 ≤ i ∧ i < s.cores := by
  unfold Cb.own at h
  simp at h
  omega
theorem Cb.ok.len {s : Cb} (ok : s.ok) : s.l.length ≤ s.cores := by
  have := srt_len s.l 0 s.cores ok.srt (fun x hx => ⟨Nat.zero_le _, Cb.own_lt (ok.mine x hx)⟩) (Nat.zero_le _)
  omega
theorem Cb.ok.len64 {s : Cb} (ok : s.ok) : s.l.length ≤ 64 := Nat.le_trans ok.len ok.c2
theorem lt_len : ∀ (l : List Nat) (a n : Nat), l.Pairwise (· < ·) → (∀ x ∈ l, a ≤ x ∧ x < n) → a ≤ n → l.length + a ≤ n
  | [], a, n, _, _, h => by simpa using h
  | x :: l, a, n, hs, hb, h => by
    have h1 := List.pairwise_cons.1 hs
    have h2 := hb x List.mem_cons_self
    have h3 := lt_len l (x + 1) n h1.2 (fun y hy => ⟨h1.1 y hy, (hb y (List.mem_cons_of_mem _ hy)).2⟩) (by omega)
    simp only [List.length_cons]
    omega
theorem Cb.ok.bat_own {s : Cb} (ok : s.ok) {i : Nat} (h : i ∈ s.batch) : s.own i = true := by
  obtain ⟨x, hx, rfl, _⟩ := ok.bat i h
  exact ok.mine x hx
theorem Cb.ok.blen {s : Cb} (ok : s.ok) : s.batch.length ≤ s.cores := by
  have := lt_len s.batch 0 s.cores ok.bs (fun x hx => ⟨Nat.zero_le _, Cb.own_lt (ok.bat_own hx)⟩) (Nat.zero_le _)
  omega

/-! ### Post -/
def ins (x : Sl) (l : List Sl) : List Sl := l.takeWhile (fun y => decide (y.core < x.core)) ++ x :: l.dropWhile (fun y => decide (y.core < x.core))
theorem ins_split {x : Sl} {a b : List Sl} (h1 : ∀ y ∈ a, y.core < x.core) (h2 : ∀ y ∈ b, x.core < y.core) : ins x (a ++ b) = a ++ x :: b := by
  unfold ins
  rw [List.takeWhile_append_of_pos (by simpa using h1), List.dropWhile_append_of_pos (by simpa using h1)]
  have h3 : b.takeWhile (fun y => decide (y.core < x.core)) = [] ∧ b.dropWhile (fun y => decide (y.core < x.core)) = b := by
    cases b with
    | nil => exact ⟨rfl, rfl⟩
    | cons y b =>
      have : ¬ (y.core < x.core) := by have := h2 y List.mem_cons_self; omega
      simp [this]
  rw [h3.1, h3.2, List.append_nil]
theorem split_ins : ∀ (l : List Sl) (x : Sl), Srt l → (∀ y ∈ l, y.core ≠ x.core) → ∃ a b, l = a ++ b ∧ (∀ y ∈ a, y.core < x.core) ∧ (∀ y ∈ b, x.core < y.core)
  | [], x, _, _ => ⟨[], [], rfl, (fun _ h => by cases h), (fun _ h => by cases h)⟩
  | z :: l, x, hs, hn => by
    have h1 := List.pairwise_cons.1 hs
    obtain ⟨a, b, rfl, ha, hb⟩ := split_ins l x h1.2 (fun y hy => hn y (List.mem_cons_of_mem _ hy))
    have hz := hn z List.mem_cons_self
    by_cases h : z.core < x.core
    · exact ⟨z :: a, b, rfl, fun y hy => by rcases List.mem_cons.1 hy with rfl | hy; exact h; exact ha y hy, hb⟩
    · cases a with
      | nil => exact ⟨[], z :: b, rfl, (fun _ h => by cases h), fun y hy => by rcases List.mem_cons.1 hy with rfl | hy; omega; exact hb y hy⟩
      | cons c a =>
        have h2 := h1.1 c (by simp)
        have h3 := ha c List.mem_cons_self
        omega
theorem ins_srt {l : List Sl} {x : Sl} (hs : Srt l) (hn : ∀ y ∈ l, y.core ≠ x.core) : Srt (ins x l) ∧ ∀ y, y ∈ ins x l ↔ y = x ∨ y ∈ l := by
  obtain ⟨a, b, rfl, ha, hb⟩ := split_ins l x hs hn
  rw [ins_split ha hb]
  have h1 := List.pairwise_append.1 hs
  refine ⟨List.pairwise_append.2 ⟨h1.1, List.pairwise_cons.2 ⟨hb, h1.2.1⟩, fun y hy z hz => ?_⟩, fun y => ?_⟩
  · rcases List.mem_cons.1 hz with rfl | hz
    · exact ha y hy
    · exact h1.2.2 y hy z hz
  · simp only [List.mem_append, List.mem_cons]
    constructor
    · rintro (h | h | h)
      · exact .inr (.inl h)
      · exact .inl h
      · exact .inr (.inr h)
    · rintro (h | h | h)
      · exact .inr (.inl h)
      · exact .inl h
      · exact .inr (.inr h)
theorem slotAt_ins {l : List Sl} {x : Sl} (hs : Srt l) (hn : ∀ y ∈ l, y.core ≠ x.core) (j : Nat) : slotAt (ins x l) j = if j = x.core then some x else slotAt l j := by
  have hi := ins_srt hs hn
  apply Option.ext
  intro y
  rw [slotAt_iff hi.1, hi.2]
  split
  · rename_i h
    subst h
    constructor
    · rintro ⟨h1 | h1, h2⟩
      · rw [h1]
      · exact absurd h2 (hn y h1)
    · intro h
      injection h with h
      subst h
      exact ⟨.inl rfl, rfl⟩
  · rename_i h
    rw [slotAt_iff hs]
    constructor
    · rintro ⟨h1 | h1, h2⟩
      · subst h1; exact absurd h2.symm h
      · exact ⟨h1, h2⟩
    · rintro ⟨h1, h2⟩; exact ⟨.inr h1, h2⟩

def newSl (i : Nat) (x : Cl) : Sl := ⟨i, x, false, false, 0⟩
def Cb.canPost (s : Cb) (i : Int) : Bool := s.own i && (slotAt s.l i.toNat).isNone
def Cb.post (s : Cb) (i : Int) (x : Cl) : Cb := if s.canPost i then { s with l := ins (newSl i.toNat x) s.l } else s
def Cb.postE (s : Cb) (i : Int) : Int := if s.own i then (if (slotAt s.l i.toNat).isSome then 8 else 0) else 1
theorem none_ne {l : List Sl} {i : Nat} (h : slotAt l i = none) : ∀ y ∈ l, y.core ≠ i := by
  intro y hy e
  unfold slotAt at h
  have := List.find?_eq_none.1 h y hy
  simp [e] at this
theorem Cb.post_ok {s : Cb} (ok : s.ok) (i : Int) (x : Cl) : (s.post i x).ok := by
  unfold Cb.post
  split
  · rename_i h
    unfold Cb.canPost at h
    rw [Bool.and_eq_true, Option.isNone_iff_eq_none] at h
    have hi := ins_srt (x := newSl i.toNat x) ok.srt (none_ne h.2)
    have hii : ((i.toNat : Nat) : Int) = i := by have := Cb.own_nn h.1; omega
    refine ⟨ok.n1, ok.n2, ok.c1, ok.c2, hi.1, fun y hy => ?_, ok.bs, fun j hj => ?_, fun y hy => ?_, ok.free, ok.wh⟩
    · rcases (hi.2 y).1 hy with rfl | hy
      · show s.own ((i.toNat : Nat) : Int) = true
        rw [hii]; exact h.1
      · exact ok.mine y hy
    · obtain ⟨y, hy, h1⟩ := ok.bat j hj
      exact ⟨y, (hi.2 y).2 (.inr hy), h1⟩
    · rcases (hi.2 y).1 hy with rfl | hy
      · constructor
        · intro h1; cases h1
        · rintro (h1 | h1)
          · cases h1
          · obtain ⟨y, hy, h2, _⟩ := ok.bat _ h1
            exact absurd h2 (none_ne h.2 y hy)
      · exact ok.tak y hy
  · exact ok

/-! ### Elect -/
def fresh (l : List Sl) : List Nat := (l.filter (fun x => !x.taken)).map Sl.core
def Sl.take (x : Sl) : Sl := { x with taken := true }
def Cb.canElect (s : Cb) (i : Int) : Bool := s.own i && s.who.isNone && !(fresh s.l).isEmpty
def Cb.elect (s : Cb) (i : Int) : Cb := if s.canElect i then { s with l := s.l.map Sl.take, who := some i.toNat, batch := fresh s.l } else s
theorem srt_map {l : List Sl} {f : Sl → Sl} (hf : ∀ x, (f x).core = x.core) (h : Srt l) : Srt (l.map f) := by
  unfold Srt
  rw [List.pairwise_map]
  exact h.imp (fun {a b} h => by rw [hf, hf]; exact h)
theorem slotAt_map {l : List Sl} {f : Sl → Sl} (hf : ∀ x, (f x).core = x.core) (j : Nat) : slotAt (l.map f) j = (slotAt l j).map f := by
  unfold slotAt
  rw [List.find?_map]
  congr 2
  funext x
  simp [hf]
theorem mem_fresh {l : List Sl} {i : Nat} : i ∈ fresh l ↔ ∃ x ∈ l, x.core = i ∧ x.taken = false := by
  unfold fresh
  simp only [List.mem_map, List.mem_filter, Bool.not_eq_true']
  constructor
  · rintro ⟨x, ⟨h1, h2⟩, h3⟩; exact ⟨x, h1, h3, h2⟩
  · rintro ⟨x, h1, h3, h2⟩; exact ⟨x, ⟨h1, h2⟩, h3⟩
theorem fresh_srt {l : List Sl} (h : Srt l) : (fresh l).Pairwise (· < ·) := by
  unfold fresh
  rw [List.pairwise_map]
  exact h.filter _
theorem Cb.elect_ok {s : Cb} (ok : s.ok) (i : Int) : (s.elect i).ok := by
  unfold Cb.elect
  split
  · rename_i h
    unfold Cb.canElect at h
    rw [Bool.and_eq_true, Bool.and_eq_true, Option.isNone_iff_eq_none] at h
    have hb := ok.free h.1.2
    have hii : ((i.toNat : Nat) : Int) = i := by have := Cb.own_nn h.1.1; omega
    refine ⟨ok.n1, ok.n2, ok.c1, ok.c2, srt_map (fun _ => rfl) ok.srt, fun y hy => ?_, fresh_srt ok.srt, fun j hj => ?_, fun y hy => ?_, (fun e => by cases e), fun j hj => ?_⟩
    · obtain ⟨x, hx, rfl⟩ := List.mem_map.1 hy
      exact ok.mine x hx
    · obtain ⟨x, hx, rfl, h1⟩ := mem_fresh.1 hj
      refine ⟨x.take, List.mem_map_of_mem hx, rfl, rfl, ?_⟩
      have h2 := ok.tak x hx
      show x.told = false
      cases ht : x.told
      · rfl
      · rw [h1, ht] at h2
        exact absurd (h2.2 (.inl rfl)) (by decide)
    · obtain ⟨x, hx, rfl⟩ := List.mem_map.1 hy
      refine ⟨fun _ => ?_, fun _ => rfl⟩
      cases ht : x.taken
      · exact .inr (mem_fresh.2 ⟨x, hx, rfl, ht⟩)
      · rcases (ok.tak x hx).1 ht with h1 | h1
        · exact .inl h1
        · rw [hb] at h1; cases h1
    · injection hj with hj
      subst hj
      show s.own ((i.toNat : Nat) : Int) = true
      rw [hii]; exact h.1.1
  · exact ok

/-! ### Deliver -/
def Sl.tell (i : Nat) (idx : Int) (x : Sl) : Sl := if x.core = i then { x with told := true, index := idx } else x
theorem Sl.tell_core (i : Nat) (idx : Int) (x : Sl) : (x.tell i idx).core = x.core := by unfold Sl.tell; split <;> rfl
def Cb.deliver (s : Cb) (idx : Int) : Cb := if idx < 0 then s else match s.batch with | [] => s | i :: t => { s with l := s.l.map (Sl.tell i idx), batch := t }
def Cb.deliverE (s : Cb) (idx : Int) : Int := if idx < 0 then 1 else match s.batch with | [] => 4 | _ :: _ => 0
theorem Cb.deliver_ok {s : Cb} (ok : s.ok) (idx : Int) : (s.deliver idx).ok := by
  unfold Cb.deliver
  split
  · exact ok
  · cases hb : s.batch with
    | nil => exact ok
    | cons i t =>
      have hbs := ok.bs
      rw [hb] at hbs
      have h1 := List.pairwise_cons.1 hbs
      have hni : i ∉ t := fun h => by have := h1.1 i h; omega
      refine ⟨ok.n1, ok.n2, ok.c1, ok.c2, srt_map (Sl.tell_core i idx) ok.srt, fun y hy => ?_, h1.2, fun j hj => ?_, fun y hy => ?_, fun e => ?_, ok.wh⟩
      · obtain ⟨x, hx, rfl⟩ := List.mem_map.1 hy
        rw [Sl.tell_core]
        exact ok.mine x hx
      · obtain ⟨x, hx, h2, h3, h4⟩ := ok.bat j (by rw [hb]; exact List.mem_cons_of_mem _ hj)
        have hne : x.core ≠ i := by rintro e; rw [h2] at e; subst e; exact hni hj
        refine ⟨x, List.mem_map.2 ⟨x, hx, ?_⟩, h2, h3, h4⟩
        unfold Sl.tell; rw [if_neg hne]
      · obtain ⟨x, hx, rfl⟩ := List.mem_map.1 hy
        have h2 := ok.tak x hx
        rw [hb] at h2
        unfold Sl.tell
        by_cases he : x.core = i
        · rw [if_pos he]
          exact ⟨fun _ => .inl rfl, fun _ => h2.2 (.inr (by rw [he]; exact List.mem_cons_self))⟩
        · rw [if_neg he]
          rw [List.mem_cons] at h2
          exact ⟨fun h => by rcases h2.1 h with h | h | h; exact .inl h; exact absurd h he; exact .inr h, fun h => h2.2 (by rcases h with h | h; exact .inl h; exact .inr (.inr h))⟩
      · have := ok.free e
        rw [hb] at this
        cases this

/-! ### Done -/
def toldAt (l : List Sl) (i : Int) : Bool := match l.find? (fun x => (x.core : Int) == i) with | some x => x.told | none => false
def Cb.done (s : Cb) (i : Int) : Cb := if toldAt s.l i then { s with l := s.l.filter (fun x => !((x.core : Int) == i)) } else s
theorem toldAt_ex {l : List Sl} {i : Int} (h : toldAt l i = true) : ∃ x ∈ l, (x.core : Int) = i ∧ x.told = true ∧ l.find? (fun x => (x.core : Int) == i) = some x := by
  unfold toldAt at h
  cases hf : l.find? (fun x => (x.core : Int) == i) with
  | none => rw [hf] at h; cases h
  | some x =>
    rw [hf] at h
    exact ⟨x, List.mem_of_find?_eq_some hf, by simpa using List.find?_some hf, h, rfl⟩
theorem Cb.done_ok {s : Cb} (ok : s.ok) (i : Int) : (s.done i).ok := by
  unfold Cb.done
  split
  · rename_i h
    obtain ⟨z, hz, hzi, hzt, _⟩ := toldAt_ex h
    refine ⟨ok.n1, ok.n2, ok.c1, ok.c2, ok.srt.filter _, fun y hy => ok.mine y (List.mem_filter.1 hy).1, ok.bs, fun j hj => ?_, fun y hy => ok.tak y (List.mem_filter.1 hy).1, ok.free, ok.wh⟩
    obtain ⟨x, hx, h1, h2, h3⟩ := ok.bat j hj
    refine ⟨x, List.mem_filter.2 ⟨hx, ?_⟩, h1, h2, h3⟩
    simp only [Bool.not_eq_true', beq_eq_false_iff_ne]
    intro e
    have : x = z := srt_inj ok.srt hx hz (by omega)
    rw [this, hzt] at h3
    cases h3
  · exact ok
theorem slotAt_filter {l : List Sl} (hs : Srt l) (i : Nat) (j : Nat) : slotAt (l.filter (fun x => !((x.core : Int) == (i : Int)))) j = if j = i then none else slotAt l j := by
  apply Option.ext
  intro y
  rw [slotAt_iff (hs.filter _)]
  simp only [List.mem_filter, Bool.not_eq_true', beq_eq_false_iff_ne]
  split
  · rename_i h
    constructor
    · rintro ⟨⟨_, h1⟩, h2⟩; omega
    · intro h; cases h
  · rename_i h
    rw [slotAt_iff hs]
    exact ⟨fun ⟨⟨h1, _⟩, h3⟩ => ⟨h1, h3⟩, fun ⟨h1, h3⟩ => ⟨⟨h1, by omega⟩, h3⟩⟩

/-! ### Release -/
def Cb.mayRelease (s : Cb) (i : Int) : Bool := match s.who with | some k => (k : Int) == i | none => false
def Cb.release (s : Cb) (i : Int) : Cb := if s.mayRelease i && s.batch.isEmpty then { s with who := none } else s
def Cb.releaseE (s : Cb) (i : Int) : Int := if s.mayRelease i then (if s.batch.isEmpty then 0 else 8) else 4
theorem Cb.release_ok {s : Cb} (ok : s.ok) (i : Int) : (s.release i).ok := by
  unfold Cb.release
  split
  · rename_i h
    rw [Bool.and_eq_true, List.isEmpty_iff] at h
    exact ⟨ok.n1, ok.n2, ok.c1, ok.c2, ok.srt, ok.mine, ok.bs, ok.bat, ok.tak, fun _ => h.2, fun _ e => by cases e⟩
  · exact ok
end Go.Proofs.Ytaibhhppdmncfaa
