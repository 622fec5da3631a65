/- Combine: the program's Elect. -/
import Derived.Test.YtaibhhppdmncfaaCbM
import Derived.Test.YtaibhhppdmncfaaMkL
namespace Go.Proofs.Ytaibhhppdmncfaa
open Go.RowKit Go.Maps Go.Shelf
attribute [local go_sem] Oper.semAt_some

def freshOf (s : Cb) (pre : List Nat) : List Nat := (pre.filter (fun j => !(s.sl j).taken)).map (fun j => (s.sl j).core)
theorem freshOf_snoc (s : Cb) (pre : List Nat) (x : Nat) : freshOf s (pre ++ [x]) = freshOf s pre ++ (if (s.sl x).taken then [] else [(s.sl x).core]) := by
  unfold freshOf
  rw [List.filter_append, List.map_append]
  congr 1
  cases h : (s.sl x).taken <;> simp [h]
theorem freshOf_len (s : Cb) (pre : List Nat) : (freshOf s pre).length ≤ pre.length := by
  unfold freshOf
  rw [List.length_map]
  exact List.length_filter_le _ _
theorem range_sl (s : Cb) : (List.range s.l.length).map s.sl = s.l := by
  apply List.ext_getElem (by simp)
  intro i h1 h2
  simp only [List.getElem_map, List.getElem_range]
  unfold Cb.sl
  rw [List.getElem?_eq_getElem h2]
  rfl
theorem freshOf_all (s : Cb) : freshOf s (List.range s.l.length) = fresh s.l := by
  have h : fresh ((List.range s.l.length).map s.sl) = freshOf s (List.range s.l.length) := by
    unfold fresh freshOf
    rw [List.filter_map, List.map_map]
    rfl
  rw [← h, range_sl]
/-- The first k of the fresh ones are taken. -/
def midc (l : List Sl) (k : Nat) : List Sl := l.map (fun x => if x.core ∈ (fresh l).take k then x.take else x)
theorem midc_core (l : List Sl) (k : Nat) (x : Sl) : (if x.core ∈ (fresh l).take k then x.take else x).core = x.core := by split <;> rfl
theorem midc_zero (l : List Sl) : midc l 0 = l := by
  unfold midc
  simp
theorem midc_all {l : List Sl} : midc l (fresh l).length = l.map Sl.take := by
  unfold midc
  refine List.map_congr_left (fun x hx => ?_)
  rw [List.take_length]
  split
  · rfl
  · rename_i h
    have : x.taken = true := by
      cases e : x.taken
      · exact absurd (mem_fresh.2 ⟨x, hx, rfl, e⟩) h
      · rfl
    unfold Sl.take
    rw [← this]
theorem midc_slot {l : List Sl} (hs : Srt l) {k : Nat} (hk : k < (fresh l).length) : ∃ x, slotAt l (fresh l)[k] = some x ∧ x.taken = false ∧ slotAt (midc l k) (fresh l)[k] = some x ∧
    slotG (midc l (k + 1)) = fun j => if j = (fresh l)[k] then some x.take.val else slotG (midc l k) j := by
  have hm : (fresh l)[k] ∈ fresh l := List.getElem_mem hk
  have hsrt := fresh_srt hs
  have hni : (fresh l)[k] ∉ (fresh l).take k := fun h => by
    obtain ⟨a, ha, he⟩ := List.mem_iff_getElem.1 h
    rw [List.getElem_take] at he
    rw [List.length_take] at ha
    have := List.pairwise_iff_getElem.1 hsrt a k (by omega) hk (by omega)
    omega
  generalize hi : (fresh l)[k] = i at hm hni ⊢
  obtain ⟨x, hx, hxi, hxt⟩ := mem_fresh.1 hm
  have h1 : slotAt l i = some x := by rw [← hxi]; exact slotAt_mem hs hx
  refine ⟨x, h1, hxt, ?_, ?_⟩
  · unfold midc
    rw [slotAt_map (midc_core l k), h1]
    show some (if x.core ∈ (fresh l).take k then x.take else x) = some x
    rw [hxi, if_neg hni]
  · funext j
    unfold slotG midc
    rw [slotAt_map (midc_core l (k + 1)), slotAt_map (midc_core l k)]
    have ht : (fresh l).take (k + 1) = (fresh l).take k ++ [i] := by rw [List.take_succ_eq_append_getElem hk, hi]
    split
    · rename_i e
      subst e
      rw [h1]
      show some (Sl.val (if x.core ∈ (fresh l).take (k + 1) then x.take else x)) = some x.take.val
      rw [hxi, ht, if_pos (by simp)]
    · rename_i e
      cases hj : slotAt l j with
      | none => rfl
      | some y =>
        have hyc := (slotAt_core hj).2
        show some (Sl.val (if y.core ∈ (fresh l).take (k + 1) then y.take else y)) = some (Sl.val (if y.core ∈ (fresh l).take k then y.take else y))
        have : (y.core ∈ (fresh l).take (k + 1)) ↔ (y.core ∈ (fresh l).take k) := by
          rw [ht, List.mem_append, List.mem_singleton]
          exact ⟨fun h => h.resolve_right (fun h => e (hyc.symm.trans h)), .inl⟩
        simp only [this]

theorem elect_off (w : World) (b m : Nat) (s : Cb) (i : Int) (h : CbAt w b m s) (hoff : s.own i = false ∨ s.who.isSome = true) : Calls Try.prog 15 #[.pointer (some ⟨b, 0, none⟩), .int .i64 i] w fun r w' => r = .returned (.bool false) ∧ w.drew = w' := by
  have hown := own_at w b m s i h
  obtain ⟨_, ⟨q, hb, _⟩, _⟩ := h
  have c5 : w.cell? ⟨b, 5, none⟩ = some (.bool s.who.isSome) := hb.cell 5
  clear hb
  cases ho : s.own i with
  | false =>
    rw [ho] at hown
    have H := Lib.hid hown
    clear hown ho hoff
    go_enter Try.func15, Try.ntmps15
    go_wp2_with (go_at_call 33; refine (H.out).mono ?_; rintro r w' ⟨rfl, rfl⟩)
    go_ret
    exact ⟨rfl, rfl⟩
  | true =>
    have hw : s.who.isSome = true := by
      rcases hoff with h | h
      · rw [ho] at h; cases h
      · exact h
    rw [ho] at hown
    rw [hw] at c5
    have H := Lib.hid hown
    clear hown ho hoff hw
    go_enter Try.func15, Try.ntmps15
    go_wp2_with (go_at_call 33; refine (H.out).mono ?_; rintro r w' ⟨rfl, rfl⟩)
    go_ret
    exact ⟨rfl, rfl⟩

theorem Only.then_ {S T : Nat → Prop} {a b c : World} (h : Only S a b) (k : Only T b c) (hT : ∀ j, T j → S j ∨ a.heap.size ≤ j) : Only S a c :=
  ⟨k.os.trans h.os, k.tape.trans h.tape, k.output.trans h.output, Nat.le_trans h.size k.size, fun j hj hn => (k.block j (Nat.lt_of_lt_of_le hj h.size) (fun e => by
    rcases hT j e with h1 | h1
    · exact hn h1
    · omega)).trans (h.block j hj hn)⟩
theorem own_num {w : World} {base k : Nat} {v : Value} {l : List Nat} (h : w.ownsRow base 3 1 v l.length (nums l)) (hk : k < l.length) :
    ∃ g cap cur, v = .slice (some ⟨g, 0, none⟩) l.length cap ∧ base ≤ g ∧ Blk w g 3 cur ∧ cur[k]? = some (.int .i64 (l[k] : Nat)) := by
  rcases h.2 with ⟨_, h0⟩ | ⟨g, cap, cur, rfl, hb, hg, hc, _, hs, ht⟩
  · omega
  · refine ⟨g, cap, cur, rfl, hb, hg, ?_⟩
    have h1 : (cur.toList.take (l.length * 1))[k]? = (nums l)[k]? := by rw [ht]
    rw [List.getElem?_take_of_lt (by omega), Array.getElem?_toList, List.getElem?_map, List.getElem?_eq_getElem hk] at h1
    exact h1
/-- Between two slots of Elect. -/
def eI (w : World) (s : Cb) (pre : List Nat) (W : World) : Prop :=
  ∃ u, Blk W w.heap.size 41 #[u] ∧ W.ownsRow (w.heap.size + 2) 3 1 u (freshOf s pre).length (nums (freshOf s pre)) ∧ Below w.heap.size w W
def eX (_ : Code) (_ : List Nat) (_ : World) : Prop := False

set_option maxRecDepth 100000 in
set_option maxHeartbeats 8000000 in
theorem elect_in (w : World) (b m : Nat) (s : Cb) (n0 : Nat) (h : CbAt w b m s) (ho : s.own (n0 : Int) = true) (hw : s.who = none) :
    CallsIn Fence.wide 12 Try.prog 15 #[.pointer (some ⟨b, 0, none⟩), .int .i64 (n0 : Int)] w fun r w' => r = .returned (.bool (s.canElect (n0 : Int))) ∧ CbAt w' b m (s.elect (n0 : Int)) ∧ Only (TouchP b m) w w' := by
  have hown := own_at w b m s (n0 : Int) h
  rw [ho] at hown
  have HOWN := Lib.hid hown
  have HH := Lib.hid h
  have hne := h.ne
  have h64 := h.ok.len64
  obtain ⟨ok, ⟨q, hb, hq⟩, hm⟩ := h
  have c5 : w.cell? ⟨b, 5, none⟩ = some (.bool false) := by have := hb.cell 5; rw [hw] at this; exact this
  have hlt := hb.lt
  have hlm := hm.lt
  have hcan : s.canElect (n0 : Int) = !(fresh s.l).isEmpty := by unfold Cb.canElect; rw [ho, hw]; simp
  have HCAN := Lib.hid hcan
  have OK := Lib.hid ok
  have HB := Lib.hid hb
  have HM := Lib.hid hm
  obtain ⟨N, hN⟩ : ∃ N, N = s.l.length := ⟨_, rfl⟩
  have HNl := Lib.hid hN
  rw [← hN] at h64
  obtain ⟨i0, hi0, hz0, hz1, hz2⟩ := info_parts info3
  clear hb hq hm hown ok hcan ho hw hN
  refine callsIn_of_wp_marks Try.func15 rfl trivial ?_ rfl
  simp only [Try.ntmps15, List.size_toArray, List.length_cons, List.length_nil, Nat.reduceAdd, Nat.reduceSub, Array.replicate_succ, Array.replicate_zero, List.push_toArray, List.append_toArray, List.nil_append, List.cons_append]
  gi_wp2_with (first
    | (gi_at_call 33; refine (callsIn_wide.2 HOWN.out).mono ?_; rintro r w' ⟨rfl, rfl⟩)
    | (gi_at_call 11; refine (callsIn_wide.2 (slots_any _ _)).mono ?_; rintro r w' ⟨rfl, rfl⟩))
  obtain ⟨W0, hW0⟩ : ∃ W0, ((w.alloc (.cells #[.slice none 0 0] 41)).alloc (.cells #[.pointer (some ⟨b, 0, none⟩)] 25)).drew = W0 := ⟨_, rfl⟩
  have hsz0 : W0.heap.size = w.heap.size + 2 := by rw [← hW0]; simp
  have B0 : Below w.heap.size w W0 := by rw [← hW0]; exact (((Below.refl _ w).alloc (Nat.le_refl _) _).alloc (by simp) _).drew
  have a1 : Blk W0 w.heap.size 41 #[.slice none 0 0] := by rw [← hW0]; exact ((Blk.new' _ _ rfl).alloc _).drew
  have a2 : Blk W0 (w.heap.size + 1) 25 #[.pointer (some ⟨b, 0, none⟩)] := by rw [← hW0]; exact (Blk.new' _ _ (by simp)).drew
  rw [hW0]
  clear hW0 c5
  refine rangeO (by omega) (gf := 29) (lb := #[.pointer (some ⟨w.heap.size + 1, 0, none⟩)]) rfl (enters_of Try.func29 (by kernel_rfl) rfl)
    (K := fun k => k = w.heap.size ∨ w.heap.size + 2 ≤ k) (fun k hk => .inr (by omega))
    (slots1_stops 11 (w.heap.size + 1) b m s w W0 _ (fun k hk => by omega) B0 (by omega) a2 HH.out) (fun _ => rfl)
    (eI w s) eX
    (fun t A B row hs hg hr => by obtain ⟨u, h1, h2, h3⟩ := hs; exact ⟨u, blk_kept h1 hg hr, own_kept h2 hg hr, own_blw (by omega) h3 (Nat.le_refl _) hg hr⟩)
    (fun c t A B row hs _ _ => hs)
    ⟨_, a1, ⟨rfl, .inl ⟨rfl, rfl⟩⟩, B0⟩
    (fun T x a' W => ∃ Bx, w.heap.size + 2 ≤ Bx ∧ Blk W Bx 49 (s.sl x).cells.toArray ∧ a' = { tmps := ((T.setIfInBounds 22 (s.sl x).val).setIfInBounds 6 (.pointer (some ⟨Bx, 0, none⟩))), defers := [] })
    (fun T x a' t A B row hs hg hr => by obtain ⟨Bx, h1, h2, h3⟩ := hs; exact ⟨Bx, h1, blk_kept h2 hg hr, h3⟩) ?assign ?body ?done ?stop
  case assign =>
    rintro l pre x W2 KK hz ⟨u, d1, d2, d3⟩ hK
    obtain ⟨y, hy⟩ : ∃ y, s.sl x = y := ⟨_, rfl⟩
    simp only [Cb.enc, hy] at hK ⊢
    clear hy
    obtain ⟨co, ⟨e1, e2, e3, e4, e5, e6, e7, e8⟩, tk, td, ix⟩ := y
    simp only [Sl.val, Sl.cells] at hK ⊢
    gi_wp2
    exact hK _ _ ((KeepsOthers.alloc W2 _).from _) ((Only.refl _ W2).alloc _) ⟨u, d1.alloc _, d2.alloc _, d3.alloc d3.size _⟩ ⟨W2.heap.size, by omega, Blk.new _ _ _, rfl⟩
  case body =>
    rintro l pre x a' W2 hz ⟨u, d1, d2, d3⟩ ⟨Bx, hBx, bX, rfl⟩ hlt
    simp only [List.setIfInBounds_toArray, List.set_cons_zero, List.set_cons_succ]
    have hpl := freshOf_len s pre
    rw [← HNl.out] at hlt
    have hfl : (freshOf s pre).length < N := by omega
    obtain ⟨y, hy⟩ : ∃ y, s.sl x = y := ⟨_, rfl⟩
    have hfs := freshOf_snoc s pre x
    rw [hy] at hfs bX ⊢
    obtain ⟨co, tk, hco, htk⟩ : ∃ co tk, y.core = co ∧ y.taken = tk := ⟨_, _, rfl, rfl⟩
    have x0 : W2.cell? ⟨Bx, 0, none⟩ = some (.int .i64 (co : Int)) := by rw [← hco]; exact bX.cell 0
    have x9 : W2.cell? ⟨Bx, 9, none⟩ = some (.bool tk) := by rw [← htk]; exact bX.cell 9
    have hlx := bX.lt
    have y0 : W2.cell? ⟨w.heap.size, 0, none⟩ = some u := d1.cell 0
    have hl1 := d1.lt
    rw [hco, htk] at hfs
    obtain ⟨ua, uc, rfl⟩ := own_form d2
    have HFS := Lib.hid hfs
    have D1 := Lib.hid d1
    have D2 := Lib.hid d2
    have D3 := Lib.hid d3
    obtain ⟨F, hF⟩ : ∃ F, (freshOf s pre).length = F := ⟨_, rfl⟩
    have HF := Lib.hid hF
    rw [hF] at y0 hfl
    rw [hF] at D1 D2
    clear hpl hy hfs bX hco htk d1 d2 d3 hF
    cases tk with
    | true =>
      gi_wp2_with fail
      refine ⟨KeepsFrom.refl _ _, Only.refl _ _, .slice ua F uc, D1.out, ?_, D3.out⟩
      rw [HFS.out]
      simpa [HF.out] using D2.out
    | false =>
      have hgn := own_blk_ne D2.out D1.out (by decide)
      have HGN := Lib.hid hgn
      clear hgn
      gi_wp2_with (gi_at_builtin; refine wpListIn_append_own_at _ rfl _ _ 41 rfl (w.heap.size + 2) 3 i0 _ 1 8 Try.underlying41 hi0 hz0 hz1 hz2 rfl (by decide) _ _ _ rfl (D2.out.alloc _) ⟨W2.heap.size, 0, none⟩ 1 1 [.int .i64 (co : Int)] rfl rfl (cell_one_new _ _ _) (fun u hu => by simp at hu; subst hu; rfl) (by unfold maxLen; omega) (by omega) (by simp; omega) ?_; intro v1 w1 own1 gr1 _ at1; obtain ⟨va, vc, rfl⟩ := own_form own1; have e1 := (D1.out.alloc (.cells #[.int .i64 (co : Int)] 3)).grown gr1 (Ne.symm HGN.out); have f1 := e1.frozen 0; have y1 := e1.cell 0; have hle := e1.lt; have hsz1 := gr1.size; have OWN1 := Lib.hid own1; have GR1 := Lib.hid gr1; have E1 := Lib.hid e1; clear own1 gr1 at1 e1)
      have hk1 : KeepsOthers W2 w1 := (KeepsOthers.alloc W2 _).trans (keepsOthers_grown GR1.out (own_cells (D2.out.alloc _)))
      have hon : Only (fun k => k = w.heap.size ∨ w.heap.size + 2 ≤ k) W2 w1 := ((Only.refl _ W2).alloc _).grown GR1.out (fun j hj => .inl (.inr (own_base D2.out j hj)))
      have hbw : Below w.heap.size w w1 := by
        have := ((Only.of_below_n D3.out).alloc (.cells #[.int .i64 (co : Int)] 3)).grown GR1.out (fun j hj => .inl (by have := own_base D2.out j hj; show w.heap.size ≤ j; omega))
        exact this.below (Nat.le_refl _) (fun k hk => hk)
      refine ⟨(hk1.trans (KeepsOthers.setCell _ _ _)).from _, hon.setCell (p := ⟨w.heap.size, 0, none⟩) (.inl (.inl rfl)) _, .slice va (F + 1) vc, E1.out.set_ 0 _, ?_, hbw.setCell (p := ⟨w.heap.size, 0, none⟩) (Nat.le_refl _) _⟩
      have o2 : Only (· = w.heap.size) w1 (w1.setCell ⟨w.heap.size, 0, none⟩ (.slice va (F + 1) vc)) := (Only.refl (· = w.heap.size) w1).setCell (p := ⟨w.heap.size, 0, none⟩) (.inl rfl) _
      rw [HFS.out]
      have := own_only OWN1.out o2 (fun j hj e => (own_blk_ne' OWN1.out E1.out (by decide)) j hj e)
      simpa [nums, HF.out] using this
  case stop =>
    intro D c pre W _ _ _ h
    exact h.elim
  case done =>
    rintro D ys W2 hD hz rfl ⟨u, d1, d2, d3⟩ hK
    rw [freshOf_all] at d2
    have hdl := (Array.getElem?_eq_some_iff.1 hK).1
    have hW2 := HH.out.below d3
    obtain ⟨ua, uc, rfl⟩ := own_form d2
    have y0 : W2.cell? ⟨w.heap.size, 0, none⟩ = some (.slice ua (fresh s.l).length uc) := d1.cell 0
    have hl1 := d1.lt
    have HW2 := Lib.hid hW2
    have D1 := Lib.hid d1
    have D2 := Lib.hid d2
    have D3 := Lib.hid d3
    have HK := Lib.hid hK
    obtain ⟨F, hF⟩ : ∃ F, (fresh s.l).length = F := ⟨_, rfl⟩
    have HF := Lib.hid hF
    rw [hF] at y0
    have hFN : F ≤ N := by
      rw [← hF, HNl.out]
      unfold fresh
      rw [List.length_map]
      exact List.length_filter_le _ _
    have hM : Marked W2 (w.heap.size + 2) [D] := (Marked.nil _ _).cons (by omega) hK (fun _ h => by cases h)
    have HMK := Lib.hid hM
    have h3D : ∀ W, W.heap[D]? = some (.deferred (some [])) → ∀ g cur, Blk W g 3 cur → ¬ (g ∈ [D]) := fun W hW g cur hg e => by
      have e' : g = D := by simpa using e
      subst e'
      unfold Blk at hg
      rw [hW] at hg
      cases hg
    have H3D := Lib.hid h3D
    clear d1 d2 d3 hK hW2 hF a1 a2 B0 hM h3D
    rcases Nat.eq_zero_or_pos F with hF0 | hF0
    · subst hF0
      have hfn : fresh s.l = [] := List.eq_nil_of_length_eq_zero HF.out
      have hc : s.canElect (n0 : Int) = false := by rw [HCAN.out, hfn]; rfl
      have hp : s.elect (n0 : Int) = s := by unfold Cb.elect; rw [hc]; rfl
      have HC := Lib.hid hc
      have HP := Lib.hid hp
      clear hfn hc hp
      gi_wp2_with fail
      refine leaves_marks _ (by simp) _ [D] _ HMK.out (fun w' hw' => ?_)
      refine ⟨_, results_tmp rfl _ _ _, by rw [HC.out]; rfl, ?_, ?_⟩
      · rw [HP.out]
        exact HW2.out.only hw' (by simp; omega) (by simp; omega) (H3D.out _ HK.out)
      · exact (Only.of_below D3.out).then_ hw' (fun j hj => .inr (by simp at hj; omega))
    · have hF0' : ¬ F = 0 := by omega
      have hF1 : ((F : Int) == 0) = false := by simpa using hF0'
      have hst : MapAt Try.prog 3 W2 m (slotG (midc s.l 0)) ∧ Only (fun j => j = m) W2 W2 := ⟨by rw [midc_zero]; exact HW2.out.hm, Only.refl _ _⟩
      have HST := Lib.hid hst
      clear hst
      gi_wp2_with fail
      gi_loopw [36] (fun c wr => ∃ k : Nat, k ≤ F ∧ c = .int .i64 k ∧ MapAt Try.prog 3 wr m (slotG (midc s.l k)) ∧ Only (fun j => j = m) W2 wr)
        (fun c _ => F - (intOf c).toNat)
      case atStart => exact ⟨0, Nat.zero_le _, rfl, HST.out⟩
      case round =>
        obtain ⟨k, hk, rfl, hmk, hon⟩ := hrel
        clear y0
        have hb3 : Blk wr b 61 _ := (HB.out.below D3.out hlt).only hon (fun e => hne e.symm)
        have hlb := hb3.lt
        have HON := Lib.hid hon
        have HMK2 := Lib.hid hmk
        have hlm3 := hmk.lt
        by_cases hkF : k < F
        · have hkf : k < (fresh s.l).length := by rw [HF.out]; exact hkF
          obtain ⟨g, cap, cur, e1, hgb, hg, hgk⟩ := own_num D2.out hkf
          obtain ⟨rfl, rfl⟩ : ua = some ⟨g, 0, none⟩ ∧ uc = cap := by injection e1 with h1 h2 h3; exact ⟨h1, h3⟩
          have hg3 := hg.only hon (fun e => HW2.out.hm.no_blk hg e.symm)
          have hlg := hg3.lt
          obtain ⟨x, hx1, hx2, hx3, hx4⟩ := midc_slot OK.out.srt hkf
          obtain ⟨ci, hci⟩ : ∃ ci, (fresh s.l)[k] = ci := ⟨_, rfl⟩
          rw [hci] at hgk hx1 hx3 hx4
          have y1 : wr.cell? ⟨g, k, none⟩ = some (.int .i64 (ci : Int)) := (hg3.cell k).trans hgk
          have y3 : wr.cell? ⟨b, 3, none⟩ = some (.map (some m)) := hb3.cell 3
          have hi64 : ci < 64 := by
            have h1 := slotAt_core hx1
            have h2 := Cb.own_lt (OK.out.mine x h1.1)
            have h3 := OK.out.c2
            omega
          have hl := (map_look hmk (ci : Int) (by omega) (by omega)).1
          rw [find_slot, hx3] at hl
          obtain ⟨co, ⟨e1', e2, e3, e4, e5, e6, e7, e8⟩, tk, td, ix⟩ := x
          obtain rfl : tk = false := hx2
          have hl' : ∀ W, Below wr.heap.size wr W → (Instr.lookup 59 (.map (some m)) (.int .i64 (ci : Int)) false).run Try.prog W = .ok (.agg #[.int .i64 (co : Int), .int .i64 e1', .int .i64 e2, .int .i64 e3, .int .i64 e4, .int .i64 e5, .int .i64 e6, .int .i64 e7, .int .i64 e8, .bool false, .bool td, .int .i64 ix]) W := fun W hW => by
            have := (map_look (HMK2.out.below hW hlm3) (ci : Int) (by omega) (by omega)).1
            rw [find_slot, hx3] at this
            exact this
          have hl1' := hl' wr (Below.refl _ _)
          have hkd : decide (F ≤ k) = false := by simpa using hkF
          have hk1 : (k : Int) < (F : Int) := by omega
          have HX4 := Lib.hid hx4
          clear hb3 hmk hon hg hg3 hgk e1 hx1 hx3 hx4 hci hl hl'
          gi_wp2_with (first
            | (refine wpIn_region_stG ((wide_wide _)) 6 (by kernel_rfl) (by kernel_rfl) (by kernel_rfl) ?_; simp only [List.take_succ_cons, List.take_zero, List.drop_succ_cons, List.drop_zero]; (repeat (first | (refine StG.skip rfl rfl ?_) | (refine StG.skipU rfl (by simp only [Act.put, List.setIfInBounds_toArray, List.set_cons_zero, List.set_cons_succ]; rfl) ?_) | (refine StG.want rfl (fun K hK => ?_); go_simp; (try go_bits); refine hK _ ?_; clear hK K))); refine StG.nil ?_)
            | (refine wpListIn_mapPut rfl _ _ _ 59 rfl 3 49 und3 und59 m (slotG (midc s.l k)) rfl (HMK2.out.below (((Below.refl _ wr).alloc (Nat.le_refl _) _).drew) hlm3) ci (.agg #[.int .i64 (co : Int), .int .i64 e1', .int .i64 e2, .int .i64 e3, .int .i64 e4, .int .i64 e5, .int .i64 e6, .int .i64 e7, .int .i64 e8, .bool true, .bool td, .int .i64 ix]) rfl rfl hi64 ?_; intro w4 hm4 hg4; have HM4 := Lib.hid hm4; have HG4 := Lib.hid hg4; clear hm4 hg4))
          go_roundw
          case rel =>
            refine ⟨k + 1, by omega, by go_num, ?_, ((HON.out.alloc _).drew).grown HG4.out (fun j hj => .inl (Option.some.inj hj).symm)⟩
            rw [HX4.out]
            exact HM4.out
          case measure => simp [intOf]; omega
        · obtain rfl : k = F := by omega
          have hkd : decide (k < k) = false := by simp
          have hc : s.canElect (n0 : Int) = true := by
            rw [HCAN.out]
            cases hfl : fresh s.l with
            | nil => have := HF.out; rw [hfl] at this; simp at this; omega
            | cons _ _ => rfl
          have hp : s.elect (n0 : Int) = { s with l := s.l.map Sl.take, who := some n0, batch := fresh s.l } := by unfold Cb.elect; rw [hc, Int.toNat_natCast]; rfl
          have hon2 : Only (fun j => j = m) W2 wr := hon
          have y0 : wr.cell? ⟨w.heap.size, 0, none⟩ = some (.slice ua k uc) := by
            have := (D1.out.only hon (fun e => by omega)).cell 0
            rw [HF.out] at this
            exact this
          have hlA : w.heap.size < wr.heap.size := (D1.out.only hon (fun e => by omega)).lt
          have g4 := hb3.frozen 4
          have g5 := hb3.frozen 5
          have g6 := hb3.frozen 6
          have q4 := hb3.cell 4
          have q5 := hb3.cell 5
          have q6 := hb3.cell 6
          have HB3 := Lib.hid hb3
          have HC := Lib.hid hc
          have HP := Lib.hid hp
          clear hb3 hmk hon hon2 hc hp
          gi_wp2_with fail
          obtain ⟨w5, hw5⟩ : ∃ w5, ((wr.setCell ⟨b, 4, none⟩ (.slice ua k uc)).setCell ⟨b, 5, none⟩ (.bool true)).setCell ⟨b, 6, none⟩ (.int .i64 (n0 : Int)) = w5 := ⟨_, rfl⟩
          rw [hw5]
          have o2 : Only (· = b) wr w5 := by
            rw [← hw5]
            exact (((Only.refl (· = b) wr).setCell (p := ⟨b, 4, none⟩) (.inl rfl) _).setCell (p := ⟨b, 5, none⟩) (.inl rfl) _).setCell (p := ⟨b, 6, none⟩) (.inl rfl) _
          have hDr : wr.heap[D]? = W2.heap[D]? := HON.out.block D hdl (fun e => by omega)
          have hD5 : w5.heap[D]? = W2.heap[D]? := (o2.block D (Nat.lt_of_lt_of_le hdl HON.out.size) (fun e => by omega)).trans hDr
          have hM5 : Marked w5 (w.heap.size + 2) [D] := HMK.out.keep (fun E hE => by
            have : E = D := by simpa using hE
            subst this
            exact hD5)
          have hC5 : CbAt w5 b m { s with l := s.l.map Sl.take, who := some n0, batch := fresh s.l } := by
            refine ⟨by rw [← HP.out]; exact Cb.elect_ok OK.out _, ⟨.slice ua k uc, ?_, ?_⟩, ?_⟩
            · rw [← hw5]
              exact ((HB3.out.set_ 4 _).set_ 5 _).set_ 6 _
            · have hd2 := D2.out
              rw [HF.out] at hd2
              have h1 : RdAt W2 (.slice ua k uc) (fresh s.l) := by
                have h9 := rdAt_own (w := W2) (base := w.heap.size + 2) (v := .slice ua (fresh s.l).length uc) (l := fresh s.l) D2.out
                rw [HF.out] at h9
                exact h9
              exact (h1.only HON.out (fun g cur hg e => HW2.out.hm.no_blk hg e.symm)).only o2 (fun g cur hg e => (hg.ne_ HB3.out (by decide)) e)
            · have h9 := HMK2.out
              have h8 := midc_all (l := s.l)
              rw [HF.out] at h8
              rw [h8] at h9
              exact h9.only o2 hne
          have hO5 : Only (TouchP b m) w w5 := ((Only.of_below D3.out).then_ HON.out (fun j hj => .inl (.inr hj))).then_ o2 (fun j hj => .inl (.inl hj))
          have HC5 := Lib.hid hC5
          have HO5 := Lib.hid hO5
          have HM5 := Lib.hid hM5
          have hD5' := hD5.trans HK.out
          have HD5 := Lib.hid hD5'
          clear hC5 hO5 hM5 hD5 hD5' hDr o2 hw5
          refine leaves_marks _ (by simp) _ [D] _ HM5.out (fun w' hw' => ?_)
          refine ⟨_, results_tmp rfl _ _ _, by rw [HC.out]; rfl, ?_, ?_⟩
          · rw [HP.out]
            exact HC5.out.only hw' (by simp; omega) (by simp; omega) (H3D.out _ HD5.out)
          · exact HO5.out.then_ hw' (fun j hj => .inr (by simp at hj; omega))
theorem elect_at (w : World) (b m : Nat) (s : Cb) (i : Int) (h : CbAt w b m s) : Calls Try.prog 15 #[.pointer (some ⟨b, 0, none⟩), .int .i64 i] w fun r w' => r = .returned (.bool (s.canElect i)) ∧ CbAt w' b m (s.elect i) ∧ Only (TouchP b m) w w' := by
  have hoff : s.own i = false ∨ s.who.isSome = true → Calls Try.prog 15 #[.pointer (some ⟨b, 0, none⟩), .int .i64 i] w fun r w' => r = .returned (.bool (s.canElect i)) ∧ CbAt w' b m (s.elect i) ∧ Only (TouchP b m) w w' := fun ho => by
    refine (elect_off w b m s i h ho).mono ?_
    rintro r w' ⟨rfl, rfl⟩
    have hc : s.canElect i = false := by
      unfold Cb.canElect
      rcases ho with ho | ho
      · rw [ho]; rfl
      · cases hw : s.who with
        | none => rw [hw] at ho; cases ho
        | some k => simp
    have hp : s.elect i = s := by unfold Cb.elect; rw [hc]; rfl
    rw [hc, hp]
    exact ⟨rfl, h.below (Below.refl _ w).drew, Only.of_below (Below.refl _ w).drew⟩
  cases ho : s.own i with
  | false => exact hoff (.inl ho)
  | true =>
    cases hw : s.who with
    | some k => exact hoff (.inr (by rw [hw]; rfl))
    | none =>
      obtain ⟨n, rfl⟩ := Int.eq_ofNat_of_zero_le (Cb.own_nn ho).1
      exact callsIn_wide.1 (elect_in w b m s n h ho hw)
theorem elect_nil (w : World) (p : Option Addr) (i : Int) (h : Calls Try.prog 23 #[.pointer p] w.drew fun r w' => r = .returned (.bool false) ∧ w.drew = w') : Calls Try.prog 15 #[.pointer p, .int .i64 i] w fun r w' => r = .returned (.bool false) ∧ w.drew = w' := by
  have hown := own_no w p i h
  have H := Lib.hid hown
  clear hown h
  go_enter Try.func15, Try.ntmps15
  go_wp2_with (go_at_call 33; refine (H.out).mono ?_; rintro r w' ⟨rfl, rfl⟩)
  go_ret
  exact ⟨rfl, rfl⟩
end Go.Proofs.Ytaibhhppdmncfaa
