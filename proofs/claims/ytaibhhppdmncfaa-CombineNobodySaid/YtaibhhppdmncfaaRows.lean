/-
  No cell of these rows narrows 'for every input' (looked for: loops, veiled, ifaces, maps, wideKeys, modest, calm, conditions, laid).
  DERIVED. THE GIVEN ROWS OF THIS SEAT. 4 by the template 'for every input the law returns true; each argument reads behind the call as it read before'; 0 by the template 'total and deterministic' (their statements: YtaibhhppdmncfaaTotals.lean).
  GIVEN WITH THE SEED: the statements are not yours to turn. If you find one false, say at which input.
  Laid BY PROGRAM, IN A SANDBOX (cutbox-rows.mjs): the forced cells as the released guide's own fill.sh prints them over the translation 19d7ff3d5f69b2eb… (all of the seat's roots in one cut). By AI agents, Wed Nov 11 2026. No macro, syntax, notation, axiom, sorry.
-/
import Derived.Test.YtaibhhppdmncfaaChecked
import GoSem.Claim
import GoSem.ClaimJoined
import GoSem.ClaimMapViews
import Derived.JoinedTies
import Derived.KernelRfl
namespace Go.Proofs.Ytaibhhppdmncfaa
/- THE CELL 'sum', in the pinned program and in every row, IS THE sha256 OF THE DUMP (.gsa) THAT YtaibhhppdmncfaaProg.lean LOADS. Nothing in Lean hashes anything: it is a label: what it is worth is what the hold of that sum in a sandbox is worth. -/
noncomputable def Try.pinned : Pinned := { name := "ytaibhhppdmncfaa", sum := "19d7ff3d5f69b2ebcbc2c47c2171f849d29ef16fbf2972e403f8f7f7a6d2b1c9", checked := Try.checked }
namespace Rows
def none {H : Type} : Left H := { results := [], args := [] }

/-- 'basinlaw14.CombineOnce': WHATEVER THE INPUT: true; the input reads as it did. -/
def combineOnceSpec : ChangeSpec := { name := "combineOnce", fn := fun _ => fun
  | [d1, d2] => { results := [.lit (.bool true)], args := [d1, d2] }
  | _ => none }
def combineOnceRow : OpenClaim := { program := "ytaibhhppdmncfaa", sum := "19d7ff3d5f69b2ebcbc2c47c2171f849d29ef16fbf2972e403f8f7f7a6d2b1c9", func := "basin/basinlaw14.CombineOnce", spec := "combineOnce", unfollowed := true, recurses := true, apart := false }
def CombineOnceSaid : Prop := combineOnceRow.holds Try.pinned (OpenSpec.ofChange combineOnceSpec)

/-- ITS FALSE NEIGHBOUR: 'it returns false'. Refute it at one input. -/
def combineOnceWrong : ChangeSpec := { name := "combineOnce", fn := fun _ => fun
  | [d1, d2] => { results := [.lit (.bool false)], args := [d1, d2] }
  | _ => none }
def CombineOnceWrongFalsely : Prop := combineOnceRow.holds Try.pinned (OpenSpec.ofChange combineOnceWrong)

/-- 'basinlaw14.CombinePlays': WHATEVER THE INPUT: true; the input reads as it did. -/
def combinePlaysSpec : ChangeSpec := { name := "combinePlays", fn := fun _ => fun
  | [d1, d2] => { results := [.lit (.bool true)], args := [d1, d2] }
  | _ => none }
def combinePlaysRow : OpenClaim := { program := "ytaibhhppdmncfaa", sum := "19d7ff3d5f69b2ebcbc2c47c2171f849d29ef16fbf2972e403f8f7f7a6d2b1c9", func := "basin/basinlaw14.CombinePlays", spec := "combinePlays", unfollowed := true, recurses := true, apart := false }
def CombinePlaysSaid : Prop := combinePlaysRow.holds Try.pinned (OpenSpec.ofChange combinePlaysSpec)

/-- ITS FALSE NEIGHBOUR: 'it returns false'. Refute it at one input. -/
def combinePlaysWrong : ChangeSpec := { name := "combinePlays", fn := fun _ => fun
  | [d1, d2] => { results := [.lit (.bool false)], args := [d1, d2] }
  | _ => none }
def CombinePlaysWrongFalsely : Prop := combinePlaysRow.holds Try.pinned (OpenSpec.ofChange combinePlaysWrong)

/-- 'basinlaw14.CombineAlone': WHATEVER THE INPUT: true; the input reads as it did. -/
def combineAloneSpec : ChangeSpec := { name := "combineAlone", fn := fun _ => fun
  | [d1, d2] => { results := [.lit (.bool true)], args := [d1, d2] }
  | _ => none }
def combineAloneRow : OpenClaim := { program := "ytaibhhppdmncfaa", sum := "19d7ff3d5f69b2ebcbc2c47c2171f849d29ef16fbf2972e403f8f7f7a6d2b1c9", func := "basin/basinlaw14.CombineAlone", spec := "combineAlone", unfollowed := true, recurses := true, apart := false }
def CombineAloneSaid : Prop := combineAloneRow.holds Try.pinned (OpenSpec.ofChange combineAloneSpec)

/-- ITS FALSE NEIGHBOUR: 'it returns false'. Refute it at one input. -/
def combineAloneWrong : ChangeSpec := { name := "combineAlone", fn := fun _ => fun
  | [d1, d2] => { results := [.lit (.bool false)], args := [d1, d2] }
  | _ => none }
def CombineAloneWrongFalsely : Prop := combineAloneRow.holds Try.pinned (OpenSpec.ofChange combineAloneWrong)

/-- 'basinlaw14.CombineNobody': WHATEVER THE INPUT: true; the input reads as it did. -/
def combineNobodySpec : ChangeSpec := { name := "combineNobody", fn := fun _ => fun
  | [d] => { results := [.lit (.bool true)], args := [d] }
  | _ => none }
def combineNobodyRow : OpenClaim := { program := "ytaibhhppdmncfaa", sum := "19d7ff3d5f69b2ebcbc2c47c2171f849d29ef16fbf2972e403f8f7f7a6d2b1c9", func := "basin/basinlaw14.CombineNobody", spec := "combineNobody", unfollowed := true, recurses := true, apart := false }
def CombineNobodySaid : Prop := combineNobodyRow.holds Try.pinned (OpenSpec.ofChange combineNobodySpec)

/-- ITS FALSE NEIGHBOUR: 'it returns false'. Refute it at one input. -/
def combineNobodyWrong : ChangeSpec := { name := "combineNobody", fn := fun _ => fun
  | [d] => { results := [.lit (.bool false)], args := [d] }
  | _ => none }
def CombineNobodyWrongFalsely : Prop := combineNobodyRow.holds Try.pinned (OpenSpec.ofChange combineNobodyWrong)

/- THE SECOND FORM. 'bulk': how many values and letters a reading holds, each counted each time it is reached (what is shared counts as often as it is met; a slice's spare places count too). A statement '..UptoSaid' is the law's where the arguments, and the package variables that the reading takes, are together of bulk at most 1048576: NARROWER than '..Said'. Prove '..Said' where nothing that the law and all that it calls make is longer than what came in: it says more and counts as full. Else prove '..UptoSaid'. A law counts once. -/
mutual
def uptoBulk {H : Type} : DataW H → Nat
  | .lit (.string bytes) => bytes.length + 1
  | .lit _ => 1
  | .nil => 1
  | .ptr d => uptoBulk d + 1
  | .slice elems spare => uptoBulkAll elems + uptoBulkAll spare + 1
  | .agg parts => uptoBulkAll parts + 1
  | .iface _ d => uptoBulk d + 1
  | .map entries => uptoBulkEntries entries + 1
  | .held _ => 1
def uptoBulkAll {H : Type} : List (DataW H) → Nat
  | [] => 0
  | d :: r => uptoBulk d + uptoBulkAll r
def uptoBulkEntries {H : Type} : List (Lit × DataW H) → Nat
  | [] => 0
  | x :: r => uptoBulkEntry x + uptoBulkEntries r
def uptoBulkEntry {H : Type} : Lit × DataW H → Nat
  | (.string bytes, d) => bytes.length + uptoBulk d + 1
  | (_, d) => uptoBulk d + 1
 end
def uptoSmall : (H : Type) → List (DataW H) → Bool := fun _ ds => decide (uptoBulkAll ds ≤ 1048576)
def OpenSpec.upto (s : _root_.Go.ChangeSpec) : _root_.Go.OpenSpec := { _root_.Go.OpenSpec.ofChange s with cond := some uptoSmall }

/-- 'basinlaw14.CombineOnce', WHERE WHAT IT READS IS OF BULK AT MOST 1048576: true; the input reads as it did. -/
def combineOnceUptoRow : OpenClaim := { program := "ytaibhhppdmncfaa", sum := "19d7ff3d5f69b2ebcbc2c47c2171f849d29ef16fbf2972e403f8f7f7a6d2b1c9", func := "basin/basinlaw14.CombineOnce", spec := "combineOnce", unfollowed := true, recurses := true, apart := false, narrowed := true }
def CombineOnceUptoSaid : Prop := combineOnceUptoRow.holds Try.pinned (OpenSpec.upto combineOnceSpec)

/-- 'basinlaw14.CombinePlays', WHERE WHAT IT READS IS OF BULK AT MOST 1048576: true; the input reads as it did. -/
def combinePlaysUptoRow : OpenClaim := { program := "ytaibhhppdmncfaa", sum := "19d7ff3d5f69b2ebcbc2c47c2171f849d29ef16fbf2972e403f8f7f7a6d2b1c9", func := "basin/basinlaw14.CombinePlays", spec := "combinePlays", unfollowed := true, recurses := true, apart := false, narrowed := true }
def CombinePlaysUptoSaid : Prop := combinePlaysUptoRow.holds Try.pinned (OpenSpec.upto combinePlaysSpec)

/-- 'basinlaw14.CombineAlone', WHERE WHAT IT READS IS OF BULK AT MOST 1048576: true; the input reads as it did. -/
def combineAloneUptoRow : OpenClaim := { program := "ytaibhhppdmncfaa", sum := "19d7ff3d5f69b2ebcbc2c47c2171f849d29ef16fbf2972e403f8f7f7a6d2b1c9", func := "basin/basinlaw14.CombineAlone", spec := "combineAlone", unfollowed := true, recurses := true, apart := false, narrowed := true }
def CombineAloneUptoSaid : Prop := combineAloneUptoRow.holds Try.pinned (OpenSpec.upto combineAloneSpec)

/-- 'basinlaw14.CombineNobody', WHERE WHAT IT READS IS OF BULK AT MOST 1048576: true; the input reads as it did. -/
def combineNobodyUptoRow : OpenClaim := { program := "ytaibhhppdmncfaa", sum := "19d7ff3d5f69b2ebcbc2c47c2171f849d29ef16fbf2972e403f8f7f7a6d2b1c9", func := "basin/basinlaw14.CombineNobody", spec := "combineNobody", unfollowed := true, recurses := true, apart := false, narrowed := true }
def CombineNobodyUptoSaid : Prop := combineNobodyUptoRow.holds Try.pinned (OpenSpec.upto combineNobodySpec)

end Rows
end Go.Proofs.Ytaibhhppdmncfaa
