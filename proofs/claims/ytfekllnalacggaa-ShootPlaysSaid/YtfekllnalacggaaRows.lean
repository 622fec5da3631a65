/-
  No cell of these rows narrows 'for every input' (looked for: loops, veiled, ifaces, maps, wideKeys, modest, calm, conditions, laid).
  DERIVED. THE GIVEN ROWS OF THIS SEAT. 4 by the template 'for every input the law returns true; each argument reads behind the call as it read before'; 0 by the template 'total and deterministic' (their statements: YtfekllnalacggaaTotals.lean).
  GIVEN WITH THE SEED: the statements are not yours to turn. If you find one false, say at which input.
  Laid BY PROGRAM, IN A SANDBOX (cutbox-rows.mjs): the forced cells as the released guide's own fill.sh prints them over the translation ff012636c7dab8eb… (all of the seat's roots in one cut). By AI agents, Wed Nov 11 2026. No macro, syntax, notation, axiom, sorry.
-/
import Derived.Test.YtfekllnalacggaaChecked
import GoSem.Claim
import GoSem.ClaimJoined
import GoSem.ClaimMapViews
import Derived.JoinedTies
import Derived.KernelRfl
namespace Go.Proofs.Ytfekllnalacggaa
/- THE CELL 'sum', in the pinned program and in every row, IS THE sha256 OF THE DUMP (.gsa) THAT YtfekllnalacggaaProg.lean LOADS. Nothing in Lean hashes anything: it is a label: what it is worth is what the hold of that sum in a sandbox is worth. -/
noncomputable def Try.pinned : Pinned := { name := "ytfekllnalacggaa", sum := "ff012636c7dab8eb1296fce2b4a18f0f00ea567cbbe759a0f1be094bd93a115a", checked := Try.checked }
namespace Rows
def none {H : Type} : Left H := { results := [], args := [] }

/-- 'basinlaw13.ShootEnds': WHATEVER THE INPUT: true; the input reads as it did. -/
def shootEndsSpec : ChangeSpec := { name := "shootEnds", fn := fun _ => fun
  | [d1, d2] => { results := [.lit (.bool true)], args := [d1, d2] }
  | _ => none }
def shootEndsRow : OpenClaim := { program := "ytfekllnalacggaa", sum := "ff012636c7dab8eb1296fce2b4a18f0f00ea567cbbe759a0f1be094bd93a115a", func := "basin/basinlaw13.ShootEnds", spec := "shootEnds", unfollowed := true, recurses := true, apart := false }
def ShootEndsSaid : Prop := shootEndsRow.holds Try.pinned (OpenSpec.ofChange shootEndsSpec)

/-- ITS FALSE NEIGHBOUR: 'it returns false'. Refute it at one input. -/
def shootEndsWrong : ChangeSpec := { name := "shootEnds", fn := fun _ => fun
  | [d1, d2] => { results := [.lit (.bool false)], args := [d1, d2] }
  | _ => none }
def ShootEndsWrongFalsely : Prop := shootEndsRow.holds Try.pinned (OpenSpec.ofChange shootEndsWrong)

/-- 'basinlaw13.ShootOrder': WHATEVER THE INPUT: true; the input reads as it did. -/
def shootOrderSpec : ChangeSpec := { name := "shootOrder", fn := fun _ => fun
  | [d1, d2] => { results := [.lit (.bool true)], args := [d1, d2] }
  | _ => none }
def shootOrderRow : OpenClaim := { program := "ytfekllnalacggaa", sum := "ff012636c7dab8eb1296fce2b4a18f0f00ea567cbbe759a0f1be094bd93a115a", func := "basin/basinlaw13.ShootOrder", spec := "shootOrder", unfollowed := true, recurses := true, apart := false }
def ShootOrderSaid : Prop := shootOrderRow.holds Try.pinned (OpenSpec.ofChange shootOrderSpec)

/-- ITS FALSE NEIGHBOUR: 'it returns false'. Refute it at one input. -/
def shootOrderWrong : ChangeSpec := { name := "shootOrder", fn := fun _ => fun
  | [d1, d2] => { results := [.lit (.bool false)], args := [d1, d2] }
  | _ => none }
def ShootOrderWrongFalsely : Prop := shootOrderRow.holds Try.pinned (OpenSpec.ofChange shootOrderWrong)

/-- 'basinlaw13.ShootPlays': WHATEVER THE INPUT: true; the input reads as it did. -/
def shootPlaysSpec : ChangeSpec := { name := "shootPlays", fn := fun _ => fun
  | [d1, d2] => { results := [.lit (.bool true)], args := [d1, d2] }
  | _ => none }
def shootPlaysRow : OpenClaim := { program := "ytfekllnalacggaa", sum := "ff012636c7dab8eb1296fce2b4a18f0f00ea567cbbe759a0f1be094bd93a115a", func := "basin/basinlaw13.ShootPlays", spec := "shootPlays", unfollowed := true, recurses := true, apart := false }
def ShootPlaysSaid : Prop := shootPlaysRow.holds Try.pinned (OpenSpec.ofChange shootPlaysSpec)

/-- ITS FALSE NEIGHBOUR: 'it returns false'. Refute it at one input. -/
def shootPlaysWrong : ChangeSpec := { name := "shootPlays", fn := fun _ => fun
  | [d1, d2] => { results := [.lit (.bool false)], args := [d1, d2] }
  | _ => none }
def ShootPlaysWrongFalsely : Prop := shootPlaysRow.holds Try.pinned (OpenSpec.ofChange shootPlaysWrong)

/-- 'basinlaw13.ShootNobody': WHATEVER THE INPUT: true; the input reads as it did. -/
def shootNobodySpec : ChangeSpec := { name := "shootNobody", fn := fun _ => fun
  | [d] => { results := [.lit (.bool true)], args := [d] }
  | _ => none }
def shootNobodyRow : OpenClaim := { program := "ytfekllnalacggaa", sum := "ff012636c7dab8eb1296fce2b4a18f0f00ea567cbbe759a0f1be094bd93a115a", func := "basin/basinlaw13.ShootNobody", spec := "shootNobody", unfollowed := true, recurses := true, apart := false }
def ShootNobodySaid : Prop := shootNobodyRow.holds Try.pinned (OpenSpec.ofChange shootNobodySpec)

/-- ITS FALSE NEIGHBOUR: 'it returns false'. Refute it at one input. -/
def shootNobodyWrong : ChangeSpec := { name := "shootNobody", fn := fun _ => fun
  | [d] => { results := [.lit (.bool false)], args := [d] }
  | _ => none }
def ShootNobodyWrongFalsely : Prop := shootNobodyRow.holds Try.pinned (OpenSpec.ofChange shootNobodyWrong)

/- THE SECOND FORM. 'bulk': how many values and letters a reading holds, each counted each time it is reached (what is shared counts as often as it is met; a slice's spare places count too). A statement '..UptoSaid' is the law's where the arguments, and the package variables that the reading takes, are together of bulk at most 1048576: NARROWER than '..Said'. Prove '..Said' where nothing that the law and all that it calls make is longer than what came in: it says more and counts as full. Else prove '..UptoSaid'. A law counts once. -/
mutual
def uptoBulk {H : Type} : DataW H → Nat
  | .lit (.string bytes) => bytes.length + 1
  | .lit _ => 1
  | .nil => 1
  | .ptr d => uptoBulk d + 1
  | .slice elems spare => uptoBulkAll elems + uptoBulkAll spare + 1
  | .agg parts => uptoBulkAll parts + 1
  | .iface _ d => uptoBulk d + 1
  | .map entries => uptoBulkEntries entries + 1
  | .held _ => 1
def uptoBulkAll {H : Type} : List (DataW H) → Nat
  | [] => 0
  | d :: r => uptoBulk d + uptoBulkAll r
def uptoBulkEntries {H : Type} : List (Lit × DataW H) → Nat
  | [] => 0
  | x :: r => uptoBulkEntry x + uptoBulkEntries r
def uptoBulkEntry {H : Type} : Lit × DataW H → Nat
  | (.string bytes, d) => bytes.length + uptoBulk d + 1
  | (_, d) => uptoBulk d + 1
 end
def uptoSmall : (H : Type) → List (DataW H) → Bool := fun _ ds => decide (uptoBulkAll ds ≤ 1048576)
def OpenSpec.upto (s : _root_.Go.ChangeSpec) : _root_.Go.OpenSpec := { _root_.Go.OpenSpec.ofChange s with cond := some uptoSmall }

/-- 'basinlaw13.ShootEnds', WHERE WHAT IT READS IS OF BULK AT MOST 1048576: true; the input reads as it did. -/
def shootEndsUptoRow : OpenClaim := { program := "ytfekllnalacggaa", sum := "ff012636c7dab8eb1296fce2b4a18f0f00ea567cbbe759a0f1be094bd93a115a", func := "basin/basinlaw13.ShootEnds", spec := "shootEnds", unfollowed := true, recurses := true, apart := false, narrowed := true }
def ShootEndsUptoSaid : Prop := shootEndsUptoRow.holds Try.pinned (OpenSpec.upto shootEndsSpec)

/-- 'basinlaw13.ShootOrder', WHERE WHAT IT READS IS OF BULK AT MOST 1048576: true; the input reads as it did. -/
def shootOrderUptoRow : OpenClaim := { program := "ytfekllnalacggaa", sum := "ff012636c7dab8eb1296fce2b4a18f0f00ea567cbbe759a0f1be094bd93a115a", func := "basin/basinlaw13.ShootOrder", spec := "shootOrder", unfollowed := true, recurses := true, apart := false, narrowed := true }
def ShootOrderUptoSaid : Prop := shootOrderUptoRow.holds Try.pinned (OpenSpec.upto shootOrderSpec)

/-- 'basinlaw13.ShootPlays', WHERE WHAT IT READS IS OF BULK AT MOST 1048576: true; the input reads as it did. -/
def shootPlaysUptoRow : OpenClaim := { program := "ytfekllnalacggaa", sum := "ff012636c7dab8eb1296fce2b4a18f0f00ea567cbbe759a0f1be094bd93a115a", func := "basin/basinlaw13.ShootPlays", spec := "shootPlays", unfollowed := true, recurses := true, apart := false, narrowed := true }
def ShootPlaysUptoSaid : Prop := shootPlaysUptoRow.holds Try.pinned (OpenSpec.upto shootPlaysSpec)

/-- 'basinlaw13.ShootNobody', WHERE WHAT IT READS IS OF BULK AT MOST 1048576: true; the input reads as it did. -/
def shootNobodyUptoRow : OpenClaim := { program := "ytfekllnalacggaa", sum := "ff012636c7dab8eb1296fce2b4a18f0f00ea567cbbe759a0f1be094bd93a115a", func := "basin/basinlaw13.ShootNobody", spec := "shootNobody", unfollowed := true, recurses := true, apart := false, narrowed := true }
def ShootNobodyUptoSaid : Prop := shootNobodyUptoRow.holds Try.pinned (OpenSpec.upto shootNobodySpec)

end Rows
end Go.Proofs.Ytfekllnalacggaa
