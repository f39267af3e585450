/-
  No cell of these rows narrows 'for every input' (looked for: loops, veiled, ifaces, maps, wideKeys, modest, calm, conditions, laid).
  DERIVED. THE GIVEN ROWS OF THIS SEAT. 3 by the template 'for every input the law returns true; each argument reads behind the call as it read before'; 0 by the template 'total and deterministic' (their statements: YtobfbgmglopdhaaTotals.lean).
  GIVEN WITH THE SEED: the statements are not yours to turn. If you find one false, say at which input.
  Laid BY PROGRAM, IN A SANDBOX (cutbox-rows.mjs): the forced cells as the released guide's own fill.sh prints them over the translation 41d3db79ccbb5e88… (all of the seat's roots in one cut). By AI agents, Wed Nov 11 2026. No macro, syntax, notation, axiom, sorry.
-/
import Derived.Test.YtobfbgmglopdhaaChecked
import GoSem.Claim
import GoSem.ClaimJoined
import GoSem.ClaimMapViews
import Derived.JoinedTies
import Derived.KernelRfl
namespace Go.Proofs.Ytobfbgmglopdhaa
/- THE CELL 'sum', in the pinned program and in every row, IS THE sha256 OF THE DUMP (.gsa) THAT YtobfbgmglopdhaaProg.lean LOADS. Nothing in Lean hashes anything: it is a label: what it is worth is what the hold of that sum in a sandbox is worth. -/
noncomputable def Try.pinned : Pinned := { name := "ytobfbgmglopdhaa", sum := "41d3db79ccbb5e887df0bc602efb08aa44c66098f03fa6d3009f39567e7fca43", checked := Try.checked }
namespace Rows
def none {H : Type} : Left H := { results := [], args := [] }

/-- 'laws.FnIndependent': WHATEVER THE INPUT: true; the input reads as it did. -/
def fnIndependentSpec : ChangeSpec := { name := "fnIndependent", fn := fun _ => fun
  | [d] => { results := [.lit (.bool true)], args := [d] }
  | _ => none }
def fnIndependentRow : OpenClaim := { program := "ytobfbgmglopdhaa", sum := "41d3db79ccbb5e887df0bc602efb08aa44c66098f03fa6d3009f39567e7fca43", func := "loop.example/g01087/laws.FnIndependent", spec := "fnIndependent", unfollowed := true, recurses := true, apart := false }
def FnIndependentSaid : Prop := fnIndependentRow.holds Try.pinned (OpenSpec.ofChange fnIndependentSpec)

/-- ITS FALSE NEIGHBOUR: 'it returns false'. Refute it at one input. -/
def fnIndependentWrong : ChangeSpec := { name := "fnIndependent", fn := fun _ => fun
  | [d] => { results := [.lit (.bool false)], args := [d] }
  | _ => none }
def FnIndependentWrongFalsely : Prop := fnIndependentRow.holds Try.pinned (OpenSpec.ofChange fnIndependentWrong)

/-- 'laws.FnBestReply': WHATEVER THE INPUT: true; the input reads as it did. -/
def fnBestReplySpec : ChangeSpec := { name := "fnBestReply", fn := fun _ => fun
  | [d] => { results := [.lit (.bool true)], args := [d] }
  | _ => none }
def fnBestReplyRow : OpenClaim := { program := "ytobfbgmglopdhaa", sum := "41d3db79ccbb5e887df0bc602efb08aa44c66098f03fa6d3009f39567e7fca43", func := "loop.example/g01087/laws.FnBestReply", spec := "fnBestReply", unfollowed := true, recurses := true, apart := false }
def FnBestReplySaid : Prop := fnBestReplyRow.holds Try.pinned (OpenSpec.ofChange fnBestReplySpec)

/-- ITS FALSE NEIGHBOUR: 'it returns false'. Refute it at one input. -/
def fnBestReplyWrong : ChangeSpec := { name := "fnBestReply", fn := fun _ => fun
  | [d] => { results := [.lit (.bool false)], args := [d] }
  | _ => none }
def FnBestReplyWrongFalsely : Prop := fnBestReplyRow.holds Try.pinned (OpenSpec.ofChange fnBestReplyWrong)

/-- 'laws.FnYao': WHATEVER THE INPUT: true; the input reads as it did. -/
def fnYaoSpec : ChangeSpec := { name := "fnYao", fn := fun _ => fun
  | [d] => { results := [.lit (.bool true)], args := [d] }
  | _ => none }
def fnYaoRow : OpenClaim := { program := "ytobfbgmglopdhaa", sum := "41d3db79ccbb5e887df0bc602efb08aa44c66098f03fa6d3009f39567e7fca43", func := "loop.example/g01087/laws.FnYao", spec := "fnYao", unfollowed := true, recurses := true, apart := false }
def FnYaoSaid : Prop := fnYaoRow.holds Try.pinned (OpenSpec.ofChange fnYaoSpec)

/-- ITS FALSE NEIGHBOUR: 'it returns false'. Refute it at one input. -/
def fnYaoWrong : ChangeSpec := { name := "fnYao", fn := fun _ => fun
  | [d] => { results := [.lit (.bool false)], args := [d] }
  | _ => none }
def FnYaoWrongFalsely : Prop := fnYaoRow.holds Try.pinned (OpenSpec.ofChange fnYaoWrong)

/- THE SECOND FORM. 'bulk': how many values and letters a reading holds, each counted each time it is reached (what is shared counts as often as it is met; a slice's spare places count too). A statement '..UptoSaid' is the law's where the arguments, and the package variables that the reading takes, are together of bulk at most 1048576: NARROWER than '..Said'. Prove '..Said' where nothing that the law and all that it calls make is longer than what came in: it says more and counts as full. Else prove '..UptoSaid'. A law counts once. -/
mutual
def uptoBulk {H : Type} : DataW H → Nat
  | .lit (.string bytes) => bytes.length + 1
  | .lit _ => 1
  | .nil => 1
  | .ptr d => uptoBulk d + 1
  | .slice elems spare => uptoBulkAll elems + uptoBulkAll spare + 1
  | .agg parts => uptoBulkAll parts + 1
  | .iface _ d => uptoBulk d + 1
  | .map entries => uptoBulkEntries entries + 1
  | .held _ => 1
def uptoBulkAll {H : Type} : List (DataW H) → Nat
  | [] => 0
  | d :: r => uptoBulk d + uptoBulkAll r
def uptoBulkEntries {H : Type} : List (Lit × DataW H) → Nat
  | [] => 0
  | x :: r => uptoBulkEntry x + uptoBulkEntries r
def uptoBulkEntry {H : Type} : Lit × DataW H → Nat
  | (.string bytes, d) => bytes.length + uptoBulk d + 1
  | (_, d) => uptoBulk d + 1
 end
def uptoSmall : (H : Type) → List (DataW H) → Bool := fun _ ds => decide (uptoBulkAll ds ≤ 1048576)
def OpenSpec.upto (s : _root_.Go.ChangeSpec) : _root_.Go.OpenSpec := { _root_.Go.OpenSpec.ofChange s with cond := some uptoSmall }

/-- 'laws.FnIndependent', WHERE WHAT IT READS IS OF BULK AT MOST 1048576: true; the input reads as it did. -/
def fnIndependentUptoRow : OpenClaim := { program := "ytobfbgmglopdhaa", sum := "41d3db79ccbb5e887df0bc602efb08aa44c66098f03fa6d3009f39567e7fca43", func := "loop.example/g01087/laws.FnIndependent", spec := "fnIndependent", unfollowed := true, recurses := true, apart := false, narrowed := true }
def FnIndependentUptoSaid : Prop := fnIndependentUptoRow.holds Try.pinned (OpenSpec.upto fnIndependentSpec)

/-- 'laws.FnBestReply', WHERE WHAT IT READS IS OF BULK AT MOST 1048576: true; the input reads as it did. -/
def fnBestReplyUptoRow : OpenClaim := { program := "ytobfbgmglopdhaa", sum := "41d3db79ccbb5e887df0bc602efb08aa44c66098f03fa6d3009f39567e7fca43", func := "loop.example/g01087/laws.FnBestReply", spec := "fnBestReply", unfollowed := true, recurses := true, apart := false, narrowed := true }
def FnBestReplyUptoSaid : Prop := fnBestReplyUptoRow.holds Try.pinned (OpenSpec.upto fnBestReplySpec)

/-- 'laws.FnYao', WHERE WHAT IT READS IS OF BULK AT MOST 1048576: true; the input reads as it did. -/
def fnYaoUptoRow : OpenClaim := { program := "ytobfbgmglopdhaa", sum := "41d3db79ccbb5e887df0bc602efb08aa44c66098f03fa6d3009f39567e7fca43", func := "loop.example/g01087/laws.FnYao", spec := "fnYao", unfollowed := true, recurses := true, apart := false, narrowed := true }
def FnYaoUptoSaid : Prop := fnYaoUptoRow.holds Try.pinned (OpenSpec.upto fnYaoSpec)

end Rows
end Go.Proofs.Ytobfbgmglopdhaa
