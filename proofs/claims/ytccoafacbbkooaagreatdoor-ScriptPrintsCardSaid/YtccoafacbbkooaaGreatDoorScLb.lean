/- Script: the reference's digits, may, permission and policy texts. -/
import Derived.Test.YtccoafacbbkooaaGreatDoorScLa
import Derived.Laws.IdiomStrings
namespace Go.Proofs.YtccoafacbbkooaaGreatDoor
open Go.RowKit Go.Maps

theorem may_iff {n : Int} : may n = true ↔ 0 ≤ n ∧ n < 1000000000 := by
  unfold may
  rw [Bool.and_eq_true, decide_eq_true_iff, decide_eq_true_iff]
theorem may_r (n : Int) (w : World) : Calls Tryz.prog 14 #[.int .i64 n] w fun e w' => e = .returned (.bool (may n)) ∧ w = w' := by
  have e : may n = (decide (0 ≤ n) && decide (n < 1000000000)) := rfl
  obtain ⟨b, hb⟩ : ∃ b, may n = b := ⟨_, rfl⟩
  rw [hb] at e ⊢
  by_cases h0 : 0 ≤ n
  · by_cases h1 : n < 1000000000
    · have hb' : b = true := by rw [e, decide_eq_true h0, decide_eq_true h1]; rfl
      subst hb'
      clear e hb
      go_enter Tryz.func14, Tryz.ntmps14
      go_wp2_with fail
      go_ret
      exact ⟨rfl, rfl⟩
    · have hb' : b = false := by rw [e, decide_eq_false h1, Bool.and_false]
      subst hb'
      clear e hb
      have h1' : decide (n < 1000000000) = false := decide_eq_false h1
      go_enter Tryz.func14, Tryz.ntmps14
      go_wp2_with fail
      go_ret
      exact ⟨rfl, rfl⟩
  · have hb' : b = false := by rw [e, decide_eq_false h0, Bool.false_and]
    subst hb'
    clear e hb
    have h0' : decide (0 ≤ n) = false := decide_eq_false h0
    go_enter Tryz.func14, Tryz.ntmps14
    go_wp2_with fail
    go_ret
    exact ⟨rfl, rfl⟩
theorem permT_r (p : Int) (w : World) : Calls Tryz.prog 45 #[.int .i64 p] w fun e w' => e = .returned (.string (bs (permT p))) ∧ w = w' := by
  by_cases h0 : p = 0
  · subst h0
    have e : bs (permT 0) = { data := #[45] } := rfl
    rw [e]
    go_enter Tryz.func45, Tryz.ntmps45
    go_wp2_with fail
    go_ret
    exact ⟨rfl, rfl⟩
  · by_cases h1 : p = 1
    · subst h1
      have e : bs (permT 1) = { data := #[114] } := rfl
      rw [e]
      go_enter Tryz.func45, Tryz.ntmps45
      go_wp2_with fail
      go_ret
      exact ⟨rfl, rfl⟩
    · have e : bs (permT p) = { data := #[114, 119] } := by unfold permT; rw [if_neg h0, if_neg h1]; rfl
      rw [e]
      have b0 : (p == 0) = false := by simpa using h0
      have b1 : (p == 1) = false := by simpa using h1
      go_enter Tryz.func45, Tryz.ntmps45
      go_wp2_with fail
      go_ret
      exact ⟨rfl, rfl⟩
theorem bs_app (a b : Wd) : bs a ++ bs b = bs (a ++ b) := by
  apply ByteArray.ext
  simp [bs]
theorem one_byte (w : World) (z : Int) (h0 : 0 ≤ z) (h : z < 10) : (convert 54 9 (.slice (some ⟨w.heap.size, 0, none⟩) 1 1)).run Tryz.prog (w.alloc (.cells #[.int .u8 (48 + z)] 5)) = .ok (.string (bs [UInt8.ofNat (48 + z.toNat)])) (w.alloc (.cells #[.int .u8 (48 + z)] 5)) := by
  have hB := Blk.new w 5 #[.int .u8 (48 + z)]
  have hz : (UInt8.ofNat (48 + z.toNat)).toNat = 48 + z.toNat := by
    rw [UInt8.toNat_ofNat']
    omega
  refine run_convert_bytes_back _ 54 9 5 ⟨w.heap.size, 0, none⟩ 1 [UInt8.ofNat (48 + z.toNat)] Tryz.underlying54 Tryz.underlying5 Tryz.underlying9 (fun j hj => ?_)
  have hj0 : j = 0 := by simpa using hj
  subst hj0
  rw [add_zero_off, hB.cell]
  have e : ((48 + z.toNat : Nat) : Int) = 48 + z := by omega
  simp only [List.getElem_cons_zero, hz, e]
  rfl
theorem dg_nat (u : Nat) : dg (u : Int) = Lib.decDigits u := by
  unfold dg Lib.itoa
  rw [if_neg (by omega)]
  rfl
theorem dec_big {v : Nat} (h : 9 < v) : Lib.decDigits v = Lib.decDigits (v / 10) ++ [UInt8.ofNat (48 + v % 10)] := by
  rw [Lib.decDigits, dif_neg (by omega)]
theorem dec_small {v : Nat} (h : ¬ 9 < v) : Lib.decDigits v = [UInt8.ofNat (48 + v)] := by
  rw [Lib.decDigits, dif_pos (by omega)]
set_option maxRecDepth 100000 in
set_option maxHeartbeats 2000000 in
theorem digits_r (u : Nat) (w : World) (hu : u < 1000000000) : Calls Tryz.prog 27 #[.int .i64 (u : Int)] w fun e w' => e = .returned (.string (bs (dg u))) ∧ Below w.heap.size w w' := by
  go_enter Tryz.func27, Tryz.ntmps27
  go_wp2_with fail
  go_loopw [0, 3] (fun n s wr => ∃ (v : Nat) (t : Wd), n = .int .i64 (v : Int) ∧ v ≤ u ∧ s = .string (bs t) ∧ dg u = Lib.decDigits v ++ t ∧ Below w.heap.size w wr)
    (fun n _ _ => (intOf n).toNat)
  case atStart => exact ⟨u, [], rfl, Nat.le_refl _, rfl, by rw [dg_nat, List.append_nil], Below.refl _ _⟩
  case round =>
    obtain ⟨v, t, rfl, hv, rfl, hd, hb⟩ := hrel
    have hbs := hb.size
    have HD := Lib.hid hd
    have HB := Lib.hid hb
    have htl : t.length ≤ 20 := by
      have h1 := dg_len (n := (u : Int)) ⟨by omega, by omega⟩
      rw [hd, List.length_append] at h1
      omega
    clear hd hb
    by_cases h9 : 9 < v
    · have hcv := one_byte wr ((v : Int) % 10) (by omega) (by omega)
      obtain ⟨ch, hch⟩ : ∃ ch, UInt8.ofNat (48 + ((v : Int) % 10).toNat) = ch := ⟨_, rfl⟩
      rw [hch] at hcv
      have hz : (bs [ch]).size + (bs t).size ≤ 9223372036854775807 := by rw [bs_size, bs_size]; simp; omega
      have HCH := Lib.hid hch
      clear hch htl
      go_wp2_with fail
      go_roundw
      case rel =>
        refine ⟨v / 10, [UInt8.ofNat (48 + v % 10)] ++ t, congrArg (Value.int .i64) (by omega), by omega, ?_, ?_, HB.out.alloc hbs _⟩
        · rw [bs_app]
          have : ((v : Int) % 10).toNat = v % 10 := by omega
          rw [← HCH.out, this]
        · rw [HD.out, dec_big h9, List.append_assoc]
      case measure => simp [intOf]; omega
    · have hcv := one_byte wr (v : Int) (by omega) (by omega)
      obtain ⟨ch, hch⟩ : ∃ ch, UInt8.ofNat (48 + (v : Int).toNat) = ch := ⟨_, rfl⟩
      rw [hch] at hcv
      have hz : (bs [ch]).size + (bs t).size ≤ 9223372036854775807 := by rw [bs_size, bs_size]; simp; omega
      have HCH := Lib.hid hch
      clear hch htl
      go_wp2_with fail
      go_ret
      refine ⟨?_, HB.out.alloc hbs _⟩
      rw [bs_app, HD.out, dec_small h9, ← HCH.out]
      rfl
theorem digits_ri (n : Int) (w : World) (hn : may n = true) : Calls Tryz.prog 27 #[.int .i64 n] w fun e w' => e = .returned (.string (bs (dg n))) ∧ Below w.heap.size w w' := by
  obtain ⟨h0, h1⟩ := may_iff.1 hn
  obtain ⟨u, rfl⟩ : ∃ u : Nat, n = (u : Int) := ⟨n.toNat, by omega⟩
  exact digits_r u w (by omega)
/-- Not too long to be joined. -/
def short (s : ByteArray) : Bool := decide (s.size ≤ 1000000000)
theorem short_of {s : ByteArray} (h : s.size ≤ 1000000000) : short s = true := decide_eq_true h
@[go_sem high] theorem add_short (w : World) (a b : ByteArray) (h : short (a ++ b) = true) : (Op.stringOp .add a b).run Tryz.prog w = .ok (.string (a ++ b)) w := by
  have h2 : (a ++ b).size ≤ 1000000000 := of_decide_eq_true h
  rw [ByteArray.size_append] at h2
  exact run_string_add_sum w a b (by omega)
theorem bs_eq {a : ByteArray} {l : Wd} (h : a.data.toList = l) : a = bs l := by
  subst h
  rfl
theorem may64 {n : Int} (h : may n = true) : In64 n := by
  obtain ⟨h0, h1⟩ := may_iff.1 h
  exact ⟨by omega, by omega⟩
theorem dg_may {n : Int} (h : may n = true) : (dg n).length ≤ 20 := dg_len (may64 h)
end Go.Proofs.YtccoafacbbkooaaGreatDoor
