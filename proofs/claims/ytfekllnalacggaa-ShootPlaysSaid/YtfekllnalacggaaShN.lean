/- Shoot: Is. -/
import Derived.Test.YtfekllnalacggaaShO
import Derived.Stop.RegionWithIn
namespace Go.Proofs.Ytfekllnalacggaa
open Go.RowKit Go.Shelf
attribute [local go_sem] Oper.semAt_some
attribute [local go_sem ↓] ld35 st35 ld41 ld61 st61
attribute [local go_sem] run_ld35 run_st35 run_ld61 run_st61

theorem StG.skipU {P : Program} {ops : Array Oper} {w : World} {Q : Act → Prop} {rest : List Oper} {a a' : Act} {o : Oper} (hw : Region.wanted o (yielded ops a.tmps) = false) (hp : a.put o.dst undef = a') (h : StG P ops w Q rest a') : StG P ops w Q (o :: rest) a :=
  StG.in_ (wpStill_step fun K hK => by rw [if_neg (by rw [hw]; exact Bool.false_ne_true), hp]; exact hK _ h.out)
/-- What stands while Is goes on. -/
structure IsB (w W : World) (br : Nat) : Prop where
  r : Blk W w.heap.size 24 #[.pointer (some ⟨br, 0, none⟩)]
  f : Blk W (w.heap.size + 1) 4 #[.bool false]
  B : Below w.heap.size w W
theorem IsB.below {w W W' : World} {br : Nat} (h : IsB w W br) (hb : Below W.heap.size W W') : IsB w W' br := ⟨h.r.below hb h.r.lt, h.f.below hb h.f.lt, h.B.trans (hb.mono h.B.size)⟩

theorem neq35 (x : Req) (w : World) : (binOp .neq 35 (.agg x.cells.toArray) (.agg x.cells.toArray)).run Try.prog w = .ok (.bool false) w := by
  obtain ⟨a0, a1⟩ := x
  simp only [Req.cells]
  go_simp
attribute [local go_sem high] neq35
attribute [local go_sem] ask_g0 ask_tail ask_ones' ask_size ask_len ask_put ask_0 ask_ext ask_ext' ask_take req_ones req_size req_take req_extract putAt2 req_len req_0 req_1

/-- Between two requests of a core. -/
def isJ (w V : World) (br at0 : Nat) (Ds : List Nat) (pre : List Nat) (W : World) : Prop :=
  IsB w W br ∧ Blk W V.heap.size 3 #[.int .i64 ((at0 + pre.length : Nat) : Int)] ∧ Below V.heap.size V W ∧ Marked W (w.heap.size + 2) Ds
/-- A round was left: it was not the next one. -/
def isX (c : Code) (pre : List Nat) (_ : World) : Prop := c = .ret ∧ ∃ (p : List Nat) (x : Nat), pre = p ++ [x] ∧ x ≠ p.length
/-- Between two cores. -/
def isI (w : World) (b br : Nat) (s : Sh) (m : Nat) (a : Act) (W : World) : Prop :=
  ∃ (c : Int) (Ds : List Nat) (u : Nat → Value), -1 ≤ c ∧ c + m = s.d.length + 1 ∧ a = { tmps := #[.pointer (some ⟨b, 0, none⟩), u 1, u 2, .pointer (some ⟨w.heap.size, 0, none⟩), .pointer (some ⟨w.heap.size + 1, 0, none⟩), u 5, .int .i64 c, u 7, u 8, u 9, u 10, u 11, u 12, u 13, u 14, u 15, u 16, u 17, u 18, u 19, u 20, u 21, u 22, u 23, u 24, u 25, u 26, u 27, u 28, u 29, u 30, u 31, u 32, u 33, u 34, u 35, u 36, u 37, u 38, u 39, u 40, u 41, u 42, u 43, u 44, u 45, u 46, u 47, u 48, u 49, u 50, u 51, u 52, u 53, u 54, u 55, u 56, u 57, u 58, u 59, u 60, u 61, u 62, u 63, u 64, u 65, u 66, u 67, u 68, u 69, u 70, u 71, u 72, u 73, u 74, u 75, u 76, u 77, u 78, u 79, u 80, u 81, u 82, u 83, u 84, u 85, u 86, u 87, u 88, u 89, u 90, u 91, u 92, u 93, u 94, u 95, u 96, u 97, u 98, u 99, u 100, u 101, u 102, u 103, u 104, u 105, u 106, u 107, u 108, u 109, u 110, u 111, u 112, u 113, u 114, u 115, u 116, u 117, u 118, u 119, u 120, u 121, u 122, u 123, u 124, u 125], defers := marks Ds } ∧ Marked W (w.heap.size + 2) Ds ∧ IsB w W br
set_option maxRecDepth 100000 in
theorem isI_mk {w W : World} {b br m : Nat} {c : Int} {s : Sh} {Ds : List Nat} {x1 x2 x5 x7 x8 x9 x10 x11 x12 x13 x14 x15 x16 x17 x18 x19 x20 x21 x22 x23 x24 x25 x26 x27 x28 x29 x30 x31 x32 x33 x34 x35 x36 x37 x38 x39 x40 x41 x42 x43 x44 x45 x46 x47 x48 x49 x50 x51 x52 x53 x54 x55 x56 x57 x58 x59 x60 x61 x62 x63 x64 x65 x66 x67 x68 x69 x70 x71 x72 x73 x74 x75 x76 x77 x78 x79 x80 x81 x82 x83 x84 x85 x86 x87 x88 x89 x90 x91 x92 x93 x94 x95 x96 x97 x98 x99 x100 x101 x102 x103 x104 x105 x106 x107 x108 x109 x110 x111 x112 x113 x114 x115 x116 x117 x118 x119 x120 x121 x122 x123 x124 x125 : Value} (h1 : -1 ≤ c) (hcm : c + m = s.d.length + 1) (hM : Marked W (w.heap.size + 2) Ds) (hB : IsB w W br) :
    isI w b br s m { tmps := #[.pointer (some ⟨b, 0, none⟩), x1, x2, .pointer (some ⟨w.heap.size, 0, none⟩), .pointer (some ⟨w.heap.size + 1, 0, none⟩), x5, .int .i64 c, x7, x8, x9, x10, x11, x12, x13, x14, x15, x16, x17, x18, x19, x20, x21, x22, x23, x24, x25, x26, x27, x28, x29, x30, x31, x32, x33, x34, x35, x36, x37, x38, x39, x40, x41, x42, x43, x44, x45, x46, x47, x48, x49, x50, x51, x52, x53, x54, x55, x56, x57, x58, x59, x60, x61, x62, x63, x64, x65, x66, x67, x68, x69, x70, x71, x72, x73, x74, x75, x76, x77, x78, x79, x80, x81, x82, x83, x84, x85, x86, x87, x88, x89, x90, x91, x92, x93, x94, x95, x96, x97, x98, x99, x100, x101, x102, x103, x104, x105, x106, x107, x108, x109, x110, x111, x112, x113, x114, x115, x116, x117, x118, x119, x120, x121, x122, x123, x124, x125], defers := marks Ds } W :=
  ⟨c, Ds, fun k => (#[undef, x1, x2, undef, undef, x5, undef, x7, x8, x9, x10, x11, x12, x13, x14, x15, x16, x17, x18, x19, x20, x21, x22, x23, x24, x25, x26, x27, x28, x29, x30, x31, x32, x33, x34, x35, x36, x37, x38, x39, x40, x41, x42, x43, x44, x45, x46, x47, x48, x49, x50, x51, x52, x53, x54, x55, x56, x57, x58, x59, x60, x61, x62, x63, x64, x65, x66, x67, x68, x69, x70, x71, x72, x73, x74, x75, x76, x77, x78, x79, x80, x81, x82, x83, x84, x85, x86, x87, x88, x89, x90, x91, x92, x93, x94, x95, x96, x97, x98, x99, x100, x101, x102, x103, x104, x105, x106, x107, x108, x109, x110, x111, x112, x113, x114, x115, x116, x117, x118, x119, x120, x121, x122, x123, x124, x125] : Array Value).getD k undef, h1, hcm, rfl, hM, hB⟩
/-- Behind the first test of a core. -/
def isR (w : World) (b br : Nat) (c : Int) (Ds : List Nat) : Exit → Act → World → Prop
  | .normal, a, W => ∃ u : Nat → Value, a = { tmps := #[.pointer (some ⟨b, 0, none⟩), u 1, u 2, .pointer (some ⟨w.heap.size, 0, none⟩), .pointer (some ⟨w.heap.size + 1, 0, none⟩), u 5, .int .i64 c, u 7, u 8, u 9, u 10, u 11, u 12, u 13, u 14, u 15, u 16, u 17, u 18, u 19, u 20, u 21, u 22, u 23, u 24, u 25, u 26, u 27, u 28, u 29, u 30, u 31, u 32, u 33, u 34, u 35, u 36, u 37, u 38, u 39, u 40, u 41, u 42, u 43, u 44, u 45, u 46, u 47, u 48, u 49, u 50, u 51, u 52, u 53, u 54, u 55, .bool false, u 57, u 58, u 59, u 60, u 61, u 62, u 63, u 64, u 65, u 66, u 67, u 68, u 69, u 70, u 71, u 72, u 73, u 74, u 75, u 76, u 77, u 78, u 79, u 80, u 81, u 82, u 83, u 84, u 85, u 86, u 87, u 88, u 89, u 90, u 91, u 92, u 93, u 94, u 95, u 96, u 97, u 98, u 99, u 100, u 101, u 102, u 103, u 104, u 105, u 106, u 107, u 108, u 109, u 110, u 111, u 112, u 113, u 114, u 115, u 116, u 117, u 118, u 119, u 120, u 121, u 122, u 123, u 124, u 125], defers := marks Ds } ∧ Marked W (w.heap.size + 2) Ds ∧ IsB w W br ∧ ∀ D ∈ Ds, D < W.heap.size
  | _, _, _ => False
set_option maxRecDepth 100000 in
theorem isR_mk {w W : World} {b br : Nat} {c : Int} {Ds : List Nat} {x1 x2 x5 x7 x8 x9 x10 x11 x12 x13 x14 x15 x16 x17 x18 x19 x20 x21 x22 x23 x24 x25 x26 x27 x28 x29 x30 x31 x32 x33 x34 x35 x36 x37 x38 x39 x40 x41 x42 x43 x44 x45 x46 x47 x48 x49 x50 x51 x52 x53 x54 x55 x57 x58 x59 x60 x61 x62 x63 x64 x65 x66 x67 x68 x69 x70 x71 x72 x73 x74 x75 x76 x77 x78 x79 x80 x81 x82 x83 x84 x85 x86 x87 x88 x89 x90 x91 x92 x93 x94 x95 x96 x97 x98 x99 x100 x101 x102 x103 x104 x105 x106 x107 x108 x109 x110 x111 x112 x113 x114 x115 x116 x117 x118 x119 x120 x121 x122 x123 x124 x125 : Value} (hM : Marked W (w.heap.size + 2) Ds) (hB : IsB w W br) :
    isR w b br c Ds .normal { tmps := #[.pointer (some ⟨b, 0, none⟩), x1, x2, .pointer (some ⟨w.heap.size, 0, none⟩), .pointer (some ⟨w.heap.size + 1, 0, none⟩), x5, .int .i64 c, x7, x8, x9, x10, x11, x12, x13, x14, x15, x16, x17, x18, x19, x20, x21, x22, x23, x24, x25, x26, x27, x28, x29, x30, x31, x32, x33, x34, x35, x36, x37, x38, x39, x40, x41, x42, x43, x44, x45, x46, x47, x48, x49, x50, x51, x52, x53, x54, x55, .bool false, x57, x58, x59, x60, x61, x62, x63, x64, x65, x66, x67, x68, x69, x70, x71, x72, x73, x74, x75, x76, x77, x78, x79, x80, x81, x82, x83, x84, x85, x86, x87, x88, x89, x90, x91, x92, x93, x94, x95, x96, x97, x98, x99, x100, x101, x102, x103, x104, x105, x106, x107, x108, x109, x110, x111, x112, x113, x114, x115, x116, x117, x118, x119, x120, x121, x122, x123, x124, x125], defers := marks Ds } W :=
  ⟨fun k => (#[undef, x1, x2, undef, undef, x5, undef, x7, x8, x9, x10, x11, x12, x13, x14, x15, x16, x17, x18, x19, x20, x21, x22, x23, x24, x25, x26, x27, x28, x29, x30, x31, x32, x33, x34, x35, x36, x37, x38, x39, x40, x41, x42, x43, x44, x45, x46, x47, x48, x49, x50, x51, x52, x53, x54, x55, undef, x57, x58, x59, x60, x61, x62, x63, x64, x65, x66, x67, x68, x69, x70, x71, x72, x73, x74, x75, x76, x77, x78, x79, x80, x81, x82, x83, x84, x85, x86, x87, x88, x89, x90, x91, x92, x93, x94, x95, x96, x97, x98, x99, x100, x101, x102, x103, x104, x105, x106, x107, x108, x109, x110, x111, x112, x113, x114, x115, x116, x117, x118, x119, x120, x121, x122, x123, x124, x125] : Array Value).getD k undef, rfl, hM, hB, fun _ hD => hM.lt hD⟩

set_option maxRecDepth 100000 in
set_option maxHeartbeats 4000000 in
theorem is_in (w : World) (base b e br ed : Nat) (v : Value) (s : Sh) (hlen : s.l.length * 16 ≤ 140737488355328) (hS : ShAt w b e s) (hR : RefAt w base br ed v s) :
    CallsIn Fence.wide 10 Try.prog 14 #[.pointer (some ⟨b, 0, none⟩), .pointer (some ⟨br, 0, none⟩)] w fun r w' => r = .returned (.bool true) ∧ Below w.heap.size w w' := by
  have hfn : ∀ (x : Fn) (y z : Array Value) (w : World), (binOp .eql 51 (.func x y z) .nilFunc).run Try.prog w = .ok (.bool false) w := fun _ _ _ _ => by kernel_rfl
  have hb := hS.hb.lt
  have hbr := hR.hb.lt
  have h64 := hS.ok.c2
  obtain ⟨va, vc, rfl⟩ := own_form hR.hv
  have HS := Lib.hid hS
  have HR := Lib.hid hR
  clear hS hR
  refine callsIn_of_wp_marks Try.func14 rfl trivial ?_ rfl
  simp only [Try.ntmps14, List.size_toArray, List.length_cons, List.length_nil, Nat.reduceAdd, Nat.reduceSub, Array.replicate_succ, Array.replicate_zero, List.push_toArray, List.append_toArray, List.nil_append, List.cons_append]
  gi_wp2_with fail
  obtain ⟨W0, hW0⟩ : ∃ W0, (w.alloc (.cells #[.pointer (some ⟨br, 0, none⟩)] 24)).alloc (.cells #[.bool false] 4) = W0 := ⟨_, rfl⟩
  have hI0 : IsB w W0 br := by
    rw [← hW0]
    exact ⟨(Blk.new' _ _ (by simp)).alloc _, Blk.new' _ _ (by simp), ((Below.refl _ w).alloc (Nat.le_refl _) _).alloc (by simp) _⟩
  rw [hW0]
  clear hW0
  have k0 : W0.cell? ⟨w.heap.size, 0, none⟩ = some (.pointer (some ⟨br, 0, none⟩)) := hI0.r.cell 0
  have k1 : W0.cell? ⟨br, 0, none⟩ = some (.slice va s.l.length vc) := (HR.out.below hI0.B).hb.cell 0
  have HL := Lib.hid (HS.out.below hI0.B).hb
  refine wpIn_region_stG (wide_wide 10) 7 (by kernel_rfl) (by kernel_rfl) (by kernel_rfl) ?_
  simp only [List.take_succ_cons, List.take_zero, List.drop_succ_cons, List.drop_zero]
  repeat (first
    | (refine StG.skip rfl rfl ?_)
    | (refine StG.want rfl (fun K hK => ?_); go_simp; (try go_bits); refine hK _ ?_; clear hK K)
    | (refine StG.want rfl (fun K hK => ?_); go_simp; refine ⟨_, (last_blk _ _ _ _ HL.out.drew).mono (fun _ _ h => ⟨h.1, h.2.symm⟩), hK _ ?_⟩; clear hK K))
  refine StG.nil ?_
  gi_wp2_with fail
  have hI1 : IsB w W0.drew br := ⟨hI0.r.drew, hI0.f.drew, hI0.B.drew⟩
  clear hI0 k0 k1 HL
  gi_loopw [5] (fun i wr => ∃ g : Int, -1 ≤ g ∧ g ≤ s.l.length + 2 ∧ i = .int .i64 g ∧ IsB w wr br)
    (fun i _ => (s.l.length + 2 - intOf i).toNat)
  case atStart => exact ⟨-1, by omega, by omega, rfl, hI1⟩
  case round =>
    obtain ⟨g, hg1, hg2, rfl, hI⟩ := hrel
    clear hI1
    have k0 : wr.cell? ⟨w.heap.size, 0, none⟩ = some (.pointer (some ⟨br, 0, none⟩)) := hI.r.cell 0
    have k1 : wr.cell? ⟨br, 0, none⟩ = some (.slice va s.l.length vc) := (HR.out.below hI.B).hb.cell 0
    by_cases hgl : g ≤ s.l.length + 1
    · have HSw := Lib.hid ((HS.out.below hI.B).below ((Below.refl wr.heap.size wr).drew))
      have HRw := Lib.hid ((HR.out.below hI.B).below ((Below.refl wr.heap.size wr).drew))
      have hwr := hI.r.lt
      have HI := Lib.hid hI
      clear hI
      gi_wp2_with fail
      refine Code.wpIn_mono NoPanic.imp ?_
      gi_region_with ((first
        | (gi_at_call 11; refine (callsIn_wide.2 (pending_sh _ _ _ _ _ HSw.out hlen)).mono ?_; rintro r w5 ⟨rfl, B5⟩;
           have e5 : w5.cell? ⟨w.heap.size, 0, none⟩ = some (.pointer (some ⟨br, 0, none⟩)) := (B5.cell (p := ⟨w.heap.size, 0, none⟩) hwr).trans k0)
        | (gi_at_call 22; refine (callsIn_wide.2 (rPending _ _ _ _ _ _ _ (by first | exact HRw.out | exact HRw.out.below B5) h64)).mono ?_; rintro r w6 ⟨rfl, rfl⟩)))
      all_goals refine NoPanic.normal ?_
      all_goals
        have hI5 := HI.out.below ((below_drewN (Below.refl wr.heap.size wr) 1).trans B5)
        clear B5
        gi_wp2_with fail
        go_roundw
        case rel => exact ⟨g + 1, by omega, by omega, by go_num, hI5⟩
        case measure => simp [intOf]; omega
    · have hgl' : decide (g ≤ (s.l.length : Int) + 1) = false := by simpa using hgl
      clear hgl
      gi_wp2_with fail
      refine wpIn_loop_ghost (isI w b br s) (s.d.length + 2) (isI_mk (c := -1) (Ds := []) (by omega) (by omega) (Marked.nil _ _) hI) ?_
      rintro m a W ⟨c, Ds, u, hc1, hcm, rfl, hM, hB⟩
      clear hI k0 k1 hgl' hg1 hg2
      have k0 : W.cell? ⟨w.heap.size, 0, none⟩ = some (.pointer (some ⟨br, 0, none⟩)) := hB.r.cell 0
      have k1 : W.cell? ⟨br, 1, none⟩ = some (.slice (some ⟨ed, 0, none⟩) s.d.length s.d.length) := (HR.out.below hB.B).hb.cell 1
      by_cases hcl : c ≤ s.d.length
      · have HSw := Lib.hid ((HS.out.below hB.B).below ((Below.refl W.heap.size W).drew))
        have HRw := Lib.hid ((HR.out.below hB.B).below ((Below.refl W.heap.size W).drew))
        obtain ⟨wt, hwt⟩ : ∃ wt, decide (0 < s.l.length - s.did c) = wt := ⟨_, rfl⟩
        have HWT := Lib.hid hwt
        have HB := Lib.hid hB
        clear hB hwt
        gi_wp2_with fail
        refine Code.wpIn_mono (Q := isR w b br c Ds) ?_ ?_
        · rintro ex a2 V hex
          cases ex with
          | normal =>
            obtain ⟨u2, rfl, hMV, hBV, _⟩ := hex
            clear HSw HRw HWT HB k0 k1 hM
            have k0 : V.cell? ⟨w.heap.size, 0, none⟩ = some (.pointer (some ⟨br, 0, none⟩)) := hBV.r.cell 0
            have k1 : V.cell? ⟨br, 1, none⟩ = some (.slice (some ⟨ed, 0, none⟩) s.d.length s.d.length) := (HR.out.below hBV.B).hb.cell 1
            have hVw := hBV.r.lt
            have hVb := hBV.f.lt
            have hVr : br < V.heap.size := Nat.lt_of_lt_of_le hbr hBV.B.size
            by_cases hc : 0 ≤ c ∧ c < s.d.length
            · obtain ⟨ci, rfl⟩ := Int.eq_ofNat_of_zero_le hc.1
              have hci : ci < s.d.length := by omega
              have hRd := (HR.out.below hBV.B).hd
              have k2 : V.cell? ⟨ed, ci, none⟩ = some (.int .i64 (s.d[ci] : Int)) := by rw [hRd.cell]; simp [hci]
              have hVd := hRd.lt
              obtain ⟨at0, hat0⟩ : ∃ at0, s.d[ci] = at0 := ⟨_, rfl⟩
              rw [hat0] at k2
              clear hRd
              gi_wp2_with (gi_at_call 16; refine (callsIn_wide.2 (queue_any _ _ _)).mono ?_; rintro r w7 ⟨rfl, rfl⟩)
              obtain ⟨W1, hW1⟩ : ∃ W1, ((V.alloc (.cells #[.int .i64 (at0 : Int)] 3)).alloc (.cells #[.pointer (some ⟨b, 0, none⟩)] 23)).alloc (.cells #[.int .i64 (ci : Int)] 3) = W1 := ⟨_, rfl⟩
              have hsz1 : W1.heap.size = V.heap.size + 3 := by rw [← hW1]; simp
              have BV1 : Below V.heap.size V W1 := by rw [← hW1]; exact (((Below.refl _ V).alloc (Nat.le_refl _) _).alloc (by simp) _).alloc (by simp; omega) _
              have a1 : Blk W1 V.heap.size 3 #[.int .i64 (at0 : Int)] := by rw [← hW1]; exact ((Blk.new' _ _ (by simp)).alloc _).alloc _
              have q1 : Blk W1 (V.heap.size + 1) 23 #[.pointer (some ⟨b, 0, none⟩)] := by rw [← hW1]; exact (Blk.new' _ _ (by simp)).alloc _
              have q2 : Blk W1 (V.heap.size + 1 + 1) 3 #[.int .i64 (ci : Int)] := by rw [← hW1]; exact Blk.new' _ _ (by simp)
              have hI1 := hBV.below BV1
              have hM1 := hMV.below BV1
              have hwV := hBV.B.size
              rw [hW1]
              clear hW1
              have hdid : s.did (ci : Int) = at0 := by rw [Sh.did_in hci, hat0]
              refine rangeW (by omega) (gf := 24) (lb := #[.pointer (some ⟨V.heap.size + 1, 0, none⟩), .pointer (some ⟨V.heap.size + 1 + 1, 0, none⟩)]) rfl (enters_of Try.func24 (by kernel_rfl) rfl)
                (n₀ := w.heap.size) (by omega) (queue1_stops 9 (V.heap.size + 1) (V.heap.size + 1 + 1) w.heap.size b e s ci w W1 (by omega) (Nat.le_refl _) (by omega) hI1.B q1 q2 HS.out) (fun _ => rfl)
                (isJ w V br at0 Ds) isX
                (fun t A B row hs hg hr => ⟨⟨blk_kept hs.1.r hg hr, blk_kept hs.1.f hg hr, own_blw (by omega) hs.1.B (Nat.le_refl _) hg hr⟩, blk_kept hs.2.1 hg hr, own_blw (by omega) hs.2.2.1 (Nat.le_refl _) hg hr, hs.2.2.2.grown (C := W1.heap.size) (fun D hD => by have := hMV.lt hD; omega) hg hr⟩)
                (fun c t A B row hs _ _ => hs)
                ⟨hI1, a1, BV1, hM1⟩
                (fun T x a' W => ∃ Bx, V.heap.size + 3 ≤ Bx ∧ Blk W Bx 35 (s.rq ci x).cells.toArray ∧ a' = { tmps := (((T.setIfInBounds 78 (.int .i64 (s.gn ci x : Int))).setIfInBounds 79 (.agg (s.rq ci x).cells.toArray)).setIfInBounds 8 (.int .i64 (s.gn ci x : Int))).setIfInBounds 9 (.pointer (some ⟨Bx, 0, none⟩)), defers := [] })
                (fun T x a' t A B row hs hg hr => by obtain ⟨Bx, h1, h2, h3⟩ := hs; exact ⟨Bx, h1, blk_kept h2 hg hr, h3⟩) ?assign ?body ?done ?stop
              case assign =>
                rintro l pre x W2 K hz ⟨hI, d1, hVB, hMM⟩ hK
                gi_wp2
                exact hK _ _ ((KeepsOthers.alloc W2 _).from _) ((Below.refl _ W2).alloc (by omega) _) ⟨⟨hI.r.alloc _, hI.f.alloc _, hI.B.alloc hI.B.size _⟩, d1.alloc _, hVB.alloc hVB.size _, hMM.below ((Below.refl _ W2).alloc (Nat.le_refl _) _)⟩ ⟨W2.heap.size, by omega, Blk.new _ _ _, rfl⟩
              case body =>
                rintro l pre x a' W2 hz ⟨hI, d1, hVB, hMM⟩ ⟨Bx, hBx, bX, rfl⟩ hlt
                simp only [List.setIfInBounds_toArray, List.set_cons_zero, List.set_cons_succ]
                have hR2 := HR.out.below hI.B
                have k0 : W2.cell? ⟨w.heap.size, 0, none⟩ = some (.pointer (some ⟨br, 0, none⟩)) := hI.r.cell 0
                have k3 : W2.cell? ⟨w.heap.size + 1, 0, none⟩ = some (.bool false) := hI.f.cell 0
                have k4 : W2.frozen? ⟨w.heap.size + 1, 0, none⟩ = false := hI.f.frozen 0
                have k5 : W2.cell? ⟨br, 0, none⟩ = some (.slice va s.l.length vc) := hR2.hb.cell 0
                obtain ⟨k, hk⟩ : ∃ k, k = at0 + pre.length := ⟨_, rfl⟩
                have k6 : W2.cell? ⟨V.heap.size, 0, none⟩ = some (.int .i64 (k : Int)) := by rw [hk]; exact d1.cell 0
                have k7 : W2.frozen? ⟨V.heap.size, 0, none⟩ = false := d1.frozen 0
                have D1 := Lib.hid d1
                have HI := Lib.hid hI
                have HK := Lib.hid hk
                have hkl : k < s.l.length := by unfold Sh.left at hlt; omega
                have hkl' : decide (s.l.length ≤ k) = false := by simpa using hkl
                have hmax : s.l.length ≤ 8796093022208 := by omega
                have hgx : s.gn ci x = at0 + x + 1 := by unfold Sh.gn; rw [hdid]
                rw [hgx]
                by_cases hx : x = pre.length
                · obtain ⟨g, cap, cur, hv, hg, hcur, hfit⟩ := own_req hR2.hv hkl
                  injection hv with hv1 _ hv2
                  subst hv1
                  have e1 : ((at0 + x + 1 : Nat) : Int) = (k : Int) + 1 := by omega
                  have e2 : s.rq ci x = s.l[k] := by unfold Sh.rq; rw [hdid, show at0 + x = k by omega, List.getElem?_eq_getElem hkl]; rfl
                  rw [e1, e2]
                  rw [e2] at bX
                  have r1 := hg.rowOf
                  have r2 := hg.plain
                  have r3 := bX.rowOf
                  have r4 := bX.plain
                  have hk0 : (0 : Int) ≤ (k : Int) := Int.natCast_nonneg _
                  have hk1 : (k : Int) < (s.l.length : Int) := by omega
                  have HX := Lib.hid hx
                  clear hx hk hgx e1 e2 hg bX hR2 hv2 d1 hI hdid hat0 a1 q1 q2 hI1 hM1
                  gi_wp2_with (first
                    | (refine wpIn_region_stG (wide_round l _) 23 (by kernel_rfl) (by kernel_rfl) (by kernel_rfl) ?_
                       simp only [List.take_succ_cons, List.take_zero, List.drop_succ_cons, List.drop_zero]
                       repeat (first | (refine StG.skip rfl rfl ?_) | (refine StG.want rfl (fun K hK => ?_); go_simp; (try go_bits); refine hK _ ?_; clear hK K))
                       refine StG.nil ?_))
                  refine ⟨((KeepsOthers.setCell _ _ _).trans (KeepsOthers.drew _)).from _, ((Below.refl w.heap.size W2).setCell (p := ⟨V.heap.size, 0, none⟩) (by simp; omega) _).drew,
                    ⟨(HI.out.r.far (p := ⟨V.heap.size, 0, none⟩) (by simp; omega) _).drew, (HI.out.f.far (p := ⟨V.heap.size, 0, none⟩) (by simp; omega) _).drew, (HI.out.B.setCell (p := ⟨V.heap.size, 0, none⟩) (by simp; omega) _).drew⟩, ?_, (hVB.setCell (p := ⟨V.heap.size, 0, none⟩) (by simp) _).drew,
                    hMM.keeps ((KeepsOthers.setCell _ _ _).trans (KeepsOthers.drew _))⟩
                  rw [List.length_append, List.length_singleton, ← Nat.add_assoc, ← HK.out]
                  exact D1.out.set_ 0 _
                · have hne0 : ¬ ((at0 + x + 1 : Nat) : Int) = (k : Int) + 1 := by omega
                  have hne : (((at0 + x + 1 : Nat) : Int) != (k : Int) + 1) = true := by simpa using hne0
                  have hne1 : (((at0 + x + 1 : Nat) : Int) == (k : Int) + 1) = false := by simpa using hne0
                  obtain ⟨gx, hgxx⟩ : ∃ gx : Int, ((at0 + x + 1 : Nat) : Int) = gx := ⟨_, rfl⟩
                  rw [hgxx] at hne hne1 ⊢
                  have HX := Lib.hid hx
                  clear hx hk hgx bX hR2 d1 hI hdid hat0 a1 q1 q2 hI1 hM1 hne0 hgxx
                  gi_wp2_with (first
                    | (refine wpIn_region_stG (wide_round l _) 23 (by kernel_rfl) (by kernel_rfl) (by kernel_rfl) ?_
                       simp only [List.take_succ_cons, List.take_zero, List.drop_succ_cons, List.drop_zero]
                       repeat (first | (refine StG.skipU rfl (by simp only [Act.put, List.setIfInBounds_toArray, List.set_cons_zero, List.set_cons_succ]; rfl) ?_) | (refine StG.want rfl (fun K hK => ?_); go_simp; (try go_bits); refine hK _ ?_; clear hK K))
                       refine StG.nil ?_))
                  exact ⟨((KeepsOthers.setCell _ _ _).trans (KeepsOthers.drew _)).from _, rfl, pre, x, rfl, HX.out⟩
              case done =>
                rintro D ys W2 hD hz rfl ⟨hI, d1, hVB, hMM⟩ hK
                have hleft : at0 + (List.range (s.left (ci : Int))).length = s.l.length := by
                  rw [List.length_range]; unfold Sh.left; rw [hdid]
                  have := HS.out.ok.hd at0 (by rw [← hat0]; exact List.getElem_mem hci)
                  omega
                rw [hleft] at d1
                have hR2 := HR.out.below hI.B
                have k0 : W2.cell? ⟨w.heap.size, 0, none⟩ = some (.pointer (some ⟨br, 0, none⟩)) := hI.r.cell 0
                have k4 : W2.cell? ⟨br, 0, none⟩ = some (.slice va s.l.length vc) := hR2.hb.cell 0
                have k5 : W2.cell? ⟨br, 1, none⟩ = some (.slice (some ⟨ed, 0, none⟩) s.d.length s.d.length) := hR2.hb.cell 1
                have k6 : W2.cell? ⟨V.heap.size, 0, none⟩ = some (.int .i64 (s.l.length : Int)) := d1.cell 0
                have HI := Lib.hid hI
                clear hR2 hleft d1 hI hdid hat0 a1 q1 q2 hI1 hM1
                gi_wp2_with (first
                  | (refine wpIn_region_stG (wide_wide _) 19 (by kernel_rfl) (by kernel_rfl) (by kernel_rfl) ?_
                     simp only [List.take_succ_cons, List.take_zero, List.drop_succ_cons, List.drop_zero]
                     repeat (first | (refine StG.skipU rfl (by simp only [Act.put, List.setIfInBounds_toArray, List.set_cons_zero, List.set_cons_succ]; rfl) ?_) | (refine StG.want rfl (fun K hK => ?_); go_simp; (try go_bits); refine hK _ ?_; clear hK K))
                     refine StG.nil ?_))
                exact ⟨m - 1, by omega, isI_mk (c := (ci : Int) + 1) (Ds := D :: Ds) (by omega) (by omega) ((hMM.keeps (KeepsOthers.drew _)).cons (by omega) hK (fun E hE => by have := hMV.lt hE; omega)) ⟨HI.out.r.drew, HI.out.f.drew, HI.out.B.drew⟩⟩
              case stop =>
                rintro D c pre W2 hD hz ⟨k, hk, rfl⟩ ⟨rfl, p, x, h1, h2⟩ hK
                exfalso
                have hl : (List.range k).length = p.length + 1 := by rw [h1]; simp
                rw [List.length_range] at hl
                subst hl
                rw [List.range_succ] at h1
                have := (List.append_inj' h1 rfl).2
                simp at this
                omega
            · have hdid : s.did c = s.l.length := Sh.did_out (by omega)
              have hl0 : s.left c = 0 := by unfold Sh.left; rw [hdid]; omega
              have hcc : decide (0 ≤ c) = false ∨ (0 ≤ c ∧ decide (c < (s.d.length : Int)) = false) := by
                by_cases h0 : 0 ≤ c
                · exact .inr ⟨h0, by simp; omega⟩
                · exact .inl (by simpa using h0)
              rcases hcc with hcc | ⟨hcc0, hcc⟩
              all_goals
                gi_wp2_with (gi_at_call 16; refine (callsIn_wide.2 (queue_any _ _ _)).mono ?_; rintro r w7 ⟨rfl, rfl⟩)
                obtain ⟨W1, hW1⟩ : ∃ W1, ((V.alloc (.cells #[.int .i64 0] 3)).alloc (.cells #[.pointer (some ⟨b, 0, none⟩)] 23)).alloc (.cells #[.int .i64 c] 3) = W1 := ⟨_, rfl⟩
                have hsz1 : W1.heap.size = V.heap.size + 3 := by rw [← hW1]; simp
                have BV1 : Below V.heap.size V W1 := by rw [← hW1]; exact (((Below.refl _ V).alloc (Nat.le_refl _) _).alloc (by simp) _).alloc (by simp; omega) _
                have a1 : Blk W1 V.heap.size 3 #[.int .i64 ((0 : Nat) : Int)] := by rw [← hW1]; exact ((Blk.new' _ _ (by simp)).alloc _).alloc _
                have q1 : Blk W1 (V.heap.size + 1) 23 #[.pointer (some ⟨b, 0, none⟩)] := by rw [← hW1]; exact (Blk.new' _ _ (by simp)).alloc _
                have q2 : Blk W1 (V.heap.size + 1 + 1) 3 #[.int .i64 c] := by rw [← hW1]; exact Blk.new' _ _ (by simp)
                have hI1 := hBV.below BV1
                have hM1 := hMV.below BV1
                have hwV := hBV.B.size
                rw [hW1]
                clear hW1
                refine rangeW (by omega) (gf := 24) (lb := #[.pointer (some ⟨V.heap.size + 1, 0, none⟩), .pointer (some ⟨V.heap.size + 1 + 1, 0, none⟩)]) rfl (enters_of Try.func24 (by kernel_rfl) rfl)
                  (n₀ := w.heap.size) (by omega) (queue1_stops 9 (V.heap.size + 1) (V.heap.size + 1 + 1) w.heap.size b e s c w W1 (by omega) (Nat.le_refl _) (by omega) hI1.B q1 q2 HS.out) (fun _ => rfl)
                  (isJ w V br 0 Ds) isX
                  (fun t A B row hs hg hr => ⟨⟨blk_kept hs.1.r hg hr, blk_kept hs.1.f hg hr, own_blw (by omega) hs.1.B (Nat.le_refl _) hg hr⟩, blk_kept hs.2.1 hg hr, own_blw (by omega) hs.2.2.1 (Nat.le_refl _) hg hr, hs.2.2.2.grown (C := W1.heap.size) (fun D hD => by have := hMV.lt hD; omega) hg hr⟩)
                  (fun c t A B row hs _ _ => hs)
                  ⟨hI1, a1, BV1, hM1⟩
                  (fun T x a' W => True)
                  (fun T x a' t A B row hs hg hr => trivial) ?assign ?body ?done ?stop
                case assign =>
                  rintro l pre x W2 K hz ⟨hI, d1, hVB, hMM⟩ hK
                  gi_wp2
                  exact hK _ _ ((KeepsOthers.alloc W2 _).from _) ((Below.refl _ W2).alloc (by omega) _) ⟨⟨hI.r.alloc _, hI.f.alloc _, hI.B.alloc hI.B.size _⟩, d1.alloc _, hVB.alloc hVB.size _, hMM.below ((Below.refl _ W2).alloc (Nat.le_refl _) _)⟩ trivial
                case body =>
                  intro l pre x a' W _ _ _ hlt
                  exact absurd hlt (by rw [hl0]; exact Nat.not_lt_zero _)
                case done =>
                  rintro D ys W2 hD hz rfl ⟨hI, d1, hVB, hMM⟩ hK
                  have hR2 := HR.out.below hI.B
                  have k0 : W2.cell? ⟨w.heap.size, 0, none⟩ = some (.pointer (some ⟨br, 0, none⟩)) := hI.r.cell 0
                  have k5 : W2.cell? ⟨br, 1, none⟩ = some (.slice (some ⟨ed, 0, none⟩) s.d.length s.d.length) := hR2.hb.cell 1
                  have HI := Lib.hid hI
                  clear hR2 d1 hI hdid a1 q1 q2 hI1 hM1
                  gi_wp2_with (first
                    | (refine wpIn_region_stG (wide_wide _) 19 (by kernel_rfl) (by kernel_rfl) (by kernel_rfl) ?_
                       simp only [List.take_succ_cons, List.take_zero, List.drop_succ_cons, List.drop_zero]
                       repeat (first | (refine StG.skipU rfl (by simp only [Act.put, List.setIfInBounds_toArray, List.set_cons_zero, List.set_cons_succ]; rfl) ?_) | (refine StG.want rfl (fun K hK => ?_); go_simp; (try go_bits); refine hK _ ?_; clear hK K))
                       refine StG.nil ?_))
                  exact ⟨m - 1, by omega, isI_mk (c := c + 1) (Ds := D :: Ds) (by omega) (by omega) ((hMM.keeps (KeepsOthers.drew _)).cons (by omega) hK (fun E hE => by have := hMV.lt hE; omega)) ⟨HI.out.r.drew, HI.out.f.drew, HI.out.B.drew⟩⟩
                case stop =>
                  rintro D c' pre W2 hD hz ⟨k, hk, rfl⟩ ⟨rfl, p, x, h1, h2⟩ hK
                  exfalso
                  have hl : (List.range k).length = p.length + 1 := by rw [h1]; simp
                  rw [List.length_range] at hl
                  omega
          | _ => exact hex.elim
        · gi_region_with ((first
            | (gi_at_call 10; refine (callsIn_wide.2 (waiting_any _ _ _ _ _ HSw.out)).mono ?_; rintro r w5 ⟨rfl, rfl⟩; rw [HWT.out])
            | (gi_at_call 23; refine (callsIn_wide.2 (rWaiting _ _ _ _ _ _ _ HRw.out)).mono ?_; rintro r w6 ⟨rfl, n6, rfl⟩; rw [HWT.out])
            | (gi_at_call 16; refine (callsIn_wide.2 (queue_any _ _ _)).mono ?_; rintro r w7 ⟨rfl, rfl⟩)))
          all_goals
            gi_wp2_with fail
            refine isR_mk ?_ ?_
            · exact hM.below (((below_drewN (Below.refl W.heap.size W) _).alloc (Nat.le_refl _) _).alloc (by simp) _)
            · exact HB.out.below (((below_drewN (Below.refl W.heap.size W) _).alloc (Nat.le_refl _) _).alloc (by simp) _)
      · have hcl' : decide (c ≤ (s.d.length : Int)) = false := by simpa using hcl
        have k2 : W.cell? ⟨w.heap.size + 1, 0, none⟩ = some (.bool false) := hB.f.cell 0
        have k3 : W.frozen? ⟨w.heap.size + 1, 0, none⟩ = false := hB.f.frozen 0
        gi_wp2_with fail
        have hMs := hM.keeps (KeepsOthers.setCell W ⟨w.heap.size + 1, 0, none⟩ (.bool true))
        have B7 : Below w.heap.size w (W.setCell ⟨w.heap.size + 1, 0, none⟩ (.bool true)) := hB.B.setCell (p := ⟨w.heap.size + 1, 0, none⟩) (by simp) _
        refine leaves_marks _ (by simp) _ _ _ hMs (fun w' hw' => ?_)
        exact ⟨_, results_cell1 rfl _ _ rfl (run_loadVar_one _ _ _ 4 4 _ _ _ ((hB.f.set_ 0 (.bool true)).past hMs hw') Try.underlying4 rfl rfl), rfl, below_past (B7.mono (Nat.le_refl _)) ⟨hMs.nd, fun D hD => ⟨by have := (hMs.at_ D hD).1; omega, (hMs.at_ D hD).2⟩⟩ hw' B7.size⟩
theorem is_st (w : World) (n0 base b e br ed : Nat) (s : Sh) (hlen : s.l.length * 16 ≤ 140737488355328) (h : St w n0 base b e br ed s) :
    Calls Try.prog 14 #[.pointer (some ⟨b, 0, none⟩), .pointer (some ⟨br, 0, none⟩)] w fun r w' => r = .returned (.bool true) ∧ Below w.heap.size w w' := by
  obtain ⟨v, R⟩ := h.R
  exact callsIn_wide.1 (is_in w base b e br ed v s hlen h.S R)

theorem plays_no (w : World) (n : Int) (A : Option Addr) (len cap : Nat) (h : n < 1 ∨ 64 < n) :
    Calls Try.prog 5 #[.int .i64 n, .slice A len cap] w fun r w' => r = .returned (.bool true) ∧ Below w.heap.size w w' := by
  have H := Lib.hid h; clear h
  go_enter Try.func5, Try.ntmps5
  go_wp2_with (first
    | (go_at_call 7; refine (made_no _ _ _ _ _ H.out).mono ?_; rintro r w1 ⟨rfl, rfl⟩)
    | (go_at_call 8; refine (awake_any _).mono ?_; rintro r w1 ⟨rfl, B1⟩))
  go_ret
  exact ⟨rfl, B1⟩
set_option maxRecDepth 100000 in
set_option maxHeartbeats 4000000 in
theorem plays_yes (w : World) (n : Nat) (A : Option Addr) (cap : Nat) (l : List SAct) (h1 : 1 ≤ n) (h2 : n ≤ 64) (ha : ActsAt w A l) :
    Calls Try.prog 5 #[.int .i64 n, .slice A l.length cap] w fun r w' => r = .returned (.bool true) ∧ Below w.heap.size w w' := by
  have hlen : ((Sh.made n).run l).l.length * 16 ≤ 140737488355328 := by
    have h := Sh.run_len (Sh.made n) l
    have h3 : (Sh.made n).l.length = 0 := rfl
    have := ha.1
    omega
  have HA := Lib.hid ha; clear ha
  go_enter Try.func5, Try.ntmps5
  go_wp2_with (first
    | (go_at_call 7; refine (made_yes _ n _ _ l h1 h2 HA.out).mono ?_; rintro r w1 ⟨b, e, br, ed, base, rfl, S1, B1⟩)
    | (go_at_call 14; refine (is_st _ _ _ _ _ _ _ _ hlen S1).mono ?_; rintro r w2 ⟨rfl, B2⟩)
    | (go_at_call 8; refine (awake_any _).mono ?_; rintro r w3 ⟨rfl, B3⟩))
  go_ret
  exact ⟨rfl, (B1.trans (B2.mono B1.size)).trans (B3.mono (Nat.le_trans B1.size B2.size))⟩
theorem plays (w : World) (n : Int) (A : Option Addr) (cap : Nat) (l : List SAct) (ha : ActsAt w A l) :
    Calls Try.prog 5 #[.int .i64 n, .slice A l.length cap] w fun r w' => r = .returned (.bool true) ∧ Below w.heap.size w w' := by
  by_cases h : n < 1 ∨ 64 < n
  · exact plays_no w n A _ cap h
  · obtain ⟨m, rfl⟩ := Int.eq_ofNat_of_zero_le (show 0 ≤ n by omega)
    exact plays_yes w m A cap l (by omega) (by omega) ha
end Go.Proofs.Ytfekllnalacggaa
