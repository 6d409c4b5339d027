/-
  No cell of these rows narrows 'for every input' (looked for: loops, veiled, ifaces, maps, wideKeys, modest, calm, conditions, laid).
  DERIVED. THE GIVEN ROWS OF THIS SEAT. 4 by the template 'for every input the law returns true; each argument reads behind the call as it read before'; 0 by the template 'total and deterministic' (their statements: YtbapgngngaaojaaGreatTotals.lean).
  GIVEN WITH THE SEED: the statements are not yours to turn. If you find one false, say at which input.
  Laid BY PROGRAM, IN A SANDBOX (cutbox-rows.mjs): the forced cells as the released guide's own fill.sh prints them over the translation aa75979e286342e2… (all of the seat's roots in one cut). By AI agents, Wed Nov 11 2026. No macro, syntax, notation, axiom, sorry.
-/
import Derived.Test.YtbapgngngaaojaaGreatChecked
import GoSem.Claim
import GoSem.ClaimJoined
import GoSem.ClaimMapViews
import Derived.JoinedTies
import Derived.KernelRfl
namespace Go.Proofs.YtbapgngngaaojaaGreat
/- THE CELL 'sum', in the pinned program and in every row, IS THE sha256 OF THE DUMP (.gsa) THAT YtbapgngngaaojaaGreatProg.lean LOADS. Nothing in Lean hashes anything: it is a label: what it is worth is what the hold of that sum in a sandbox is worth. -/
noncomputable def Tryz.pinned : Pinned := { name := "ytbapgngngaaojaagreat", sum := "aa75979e286342e24100ac077cfc6c27e3bdea0370468705cee951fbb14cb5a8", checked := Tryz.checked }
namespace Rows
def none {H : Type} : Left H := { results := [], args := [] }

/-- 'portreevelaw09.MmuBlocks': WHATEVER THE INPUT: true; the input reads as it did. -/
def mmuBlocksSpec : ChangeSpec := { name := "mmuBlocks", fn := fun _ => fun
  | [d1, d2, d3, d4, d5] => { results := [.lit (.bool true)], args := [d1, d2, d3, d4, d5] }
  | _ => none }
def mmuBlocksRow : OpenClaim := { program := "ytbapgngngaaojaagreat", sum := "aa75979e286342e24100ac077cfc6c27e3bdea0370468705cee951fbb14cb5a8", func := "portreeve/portreevelaw09.MmuBlocks", spec := "mmuBlocks", unfollowed := true, recurses := true, apart := false }
def MmuBlocksSaid : Prop := mmuBlocksRow.holds Tryz.pinned (OpenSpec.ofChange mmuBlocksSpec)

/-- ITS FALSE NEIGHBOUR: 'it returns false'. Refute it at one input. -/
def mmuBlocksWrong : ChangeSpec := { name := "mmuBlocks", fn := fun _ => fun
  | [d1, d2, d3, d4, d5] => { results := [.lit (.bool false)], args := [d1, d2, d3, d4, d5] }
  | _ => none }
def MmuBlocksWrongFalsely : Prop := mmuBlocksRow.holds Tryz.pinned (OpenSpec.ofChange mmuBlocksWrong)

/-- 'portreevelaw09.MmuFlushed': WHATEVER THE INPUT: true; the input reads as it did. -/
def mmuFlushedSpec : ChangeSpec := { name := "mmuFlushed", fn := fun _ => fun
  | [d1, d2, d3, d4] => { results := [.lit (.bool true)], args := [d1, d2, d3, d4] }
  | _ => none }
def mmuFlushedRow : OpenClaim := { program := "ytbapgngngaaojaagreat", sum := "aa75979e286342e24100ac077cfc6c27e3bdea0370468705cee951fbb14cb5a8", func := "portreeve/portreevelaw09.MmuFlushed", spec := "mmuFlushed", unfollowed := true, recurses := true, apart := false }
def MmuFlushedSaid : Prop := mmuFlushedRow.holds Tryz.pinned (OpenSpec.ofChange mmuFlushedSpec)

/-- ITS FALSE NEIGHBOUR: 'it returns false'. Refute it at one input. -/
def mmuFlushedWrong : ChangeSpec := { name := "mmuFlushed", fn := fun _ => fun
  | [d1, d2, d3, d4] => { results := [.lit (.bool false)], args := [d1, d2, d3, d4] }
  | _ => none }
def MmuFlushedWrongFalsely : Prop := mmuFlushedRow.holds Tryz.pinned (OpenSpec.ofChange mmuFlushedWrong)

/-- 'portreevelaw09.MmuPlays': WHATEVER THE INPUT: true; the input reads as it did. -/
def mmuPlaysSpec : ChangeSpec := { name := "mmuPlays", fn := fun _ => fun
  | [d1, d2, d3] => { results := [.lit (.bool true)], args := [d1, d2, d3] }
  | _ => none }
def mmuPlaysRow : OpenClaim := { program := "ytbapgngngaaojaagreat", sum := "aa75979e286342e24100ac077cfc6c27e3bdea0370468705cee951fbb14cb5a8", func := "portreeve/portreevelaw09.MmuPlays", spec := "mmuPlays", unfollowed := true, recurses := true, apart := false }
def MmuPlaysSaid : Prop := mmuPlaysRow.holds Tryz.pinned (OpenSpec.ofChange mmuPlaysSpec)

/-- ITS FALSE NEIGHBOUR: 'it returns false'. Refute it at one input. -/
def mmuPlaysWrong : ChangeSpec := { name := "mmuPlays", fn := fun _ => fun
  | [d1, d2, d3] => { results := [.lit (.bool false)], args := [d1, d2, d3] }
  | _ => none }
def MmuPlaysWrongFalsely : Prop := mmuPlaysRow.holds Tryz.pinned (OpenSpec.ofChange mmuPlaysWrong)

/-- 'portreevelaw09.MmuErased': WHATEVER THE INPUT: true; the input reads as it did. -/
def mmuErasedSpec : ChangeSpec := { name := "mmuErased", fn := fun _ => fun
  | [d1, d2, d3] => { results := [.lit (.bool true)], args := [d1, d2, d3] }
  | _ => none }
def mmuErasedRow : OpenClaim := { program := "ytbapgngngaaojaagreat", sum := "aa75979e286342e24100ac077cfc6c27e3bdea0370468705cee951fbb14cb5a8", func := "portreeve/portreevelaw09.MmuErased", spec := "mmuErased", unfollowed := true, recurses := true, apart := false }
def MmuErasedSaid : Prop := mmuErasedRow.holds Tryz.pinned (OpenSpec.ofChange mmuErasedSpec)

/-- ITS FALSE NEIGHBOUR: 'it returns false'. Refute it at one input. -/
def mmuErasedWrong : ChangeSpec := { name := "mmuErased", fn := fun _ => fun
  | [d1, d2, d3] => { results := [.lit (.bool false)], args := [d1, d2, d3] }
  | _ => none }
def MmuErasedWrongFalsely : Prop := mmuErasedRow.holds Tryz.pinned (OpenSpec.ofChange mmuErasedWrong)

/- THE SECOND FORM. 'bulk': how many values and letters a reading holds, each counted each time it is reached (what is shared counts as often as it is met; a slice's spare places count too). A statement '..UptoSaid' is the law's where the arguments, and the package variables that the reading takes, are together of bulk at most 1048576: NARROWER than '..Said'. Prove '..Said' where nothing that the law and all that it calls make is longer than what came in: it says more and counts as full. Else prove '..UptoSaid'. A law counts once. -/
mutual
def uptoBulk {H : Type} : DataW H → Nat
  | .lit (.string bytes) => bytes.length + 1
  | .lit _ => 1
  | .nil => 1
  | .ptr d => uptoBulk d + 1
  | .slice elems spare => uptoBulkAll elems + uptoBulkAll spare + 1
  | .agg parts => uptoBulkAll parts + 1
  | .iface _ d => uptoBulk d + 1
  | .map entries => uptoBulkEntries entries + 1
  | .held _ => 1
def uptoBulkAll {H : Type} : List (DataW H) → Nat
  | [] => 0
  | d :: r => uptoBulk d + uptoBulkAll r
def uptoBulkEntries {H : Type} : List (Lit × DataW H) → Nat
  | [] => 0
  | x :: r => uptoBulkEntry x + uptoBulkEntries r
def uptoBulkEntry {H : Type} : Lit × DataW H → Nat
  | (.string bytes, d) => bytes.length + uptoBulk d + 1
  | (_, d) => uptoBulk d + 1
 end
def uptoSmall : (H : Type) → List (DataW H) → Bool := fun _ ds => decide (uptoBulkAll ds ≤ 1048576)
def OpenSpec.upto (s : _root_.Go.ChangeSpec) : _root_.Go.OpenSpec := { _root_.Go.OpenSpec.ofChange s with cond := some uptoSmall }

/-- 'portreevelaw09.MmuBlocks', WHERE WHAT IT READS IS OF BULK AT MOST 1048576: true; the input reads as it did. -/
def mmuBlocksUptoRow : OpenClaim := { program := "ytbapgngngaaojaagreat", sum := "aa75979e286342e24100ac077cfc6c27e3bdea0370468705cee951fbb14cb5a8", func := "portreeve/portreevelaw09.MmuBlocks", spec := "mmuBlocks", unfollowed := true, recurses := true, apart := false, narrowed := true }
def MmuBlocksUptoSaid : Prop := mmuBlocksUptoRow.holds Tryz.pinned (OpenSpec.upto mmuBlocksSpec)

/-- 'portreevelaw09.MmuFlushed', WHERE WHAT IT READS IS OF BULK AT MOST 1048576: true; the input reads as it did. -/
def mmuFlushedUptoRow : OpenClaim := { program := "ytbapgngngaaojaagreat", sum := "aa75979e286342e24100ac077cfc6c27e3bdea0370468705cee951fbb14cb5a8", func := "portreeve/portreevelaw09.MmuFlushed", spec := "mmuFlushed", unfollowed := true, recurses := true, apart := false, narrowed := true }
def MmuFlushedUptoSaid : Prop := mmuFlushedUptoRow.holds Tryz.pinned (OpenSpec.upto mmuFlushedSpec)

/-- 'portreevelaw09.MmuPlays', WHERE WHAT IT READS IS OF BULK AT MOST 1048576: true; the input reads as it did. -/
def mmuPlaysUptoRow : OpenClaim := { program := "ytbapgngngaaojaagreat", sum := "aa75979e286342e24100ac077cfc6c27e3bdea0370468705cee951fbb14cb5a8", func := "portreeve/portreevelaw09.MmuPlays", spec := "mmuPlays", unfollowed := true, recurses := true, apart := false, narrowed := true }
def MmuPlaysUptoSaid : Prop := mmuPlaysUptoRow.holds Tryz.pinned (OpenSpec.upto mmuPlaysSpec)

/-- 'portreevelaw09.MmuErased', WHERE WHAT IT READS IS OF BULK AT MOST 1048576: true; the input reads as it did. -/
def mmuErasedUptoRow : OpenClaim := { program := "ytbapgngngaaojaagreat", sum := "aa75979e286342e24100ac077cfc6c27e3bdea0370468705cee951fbb14cb5a8", func := "portreeve/portreevelaw09.MmuErased", spec := "mmuErased", unfollowed := true, recurses := true, apart := false, narrowed := true }
def MmuErasedUptoSaid : Prop := mmuErasedUptoRow.holds Tryz.pinned (OpenSpec.upto mmuErasedSpec)

end Rows
end Go.Proofs.YtbapgngngaaojaaGreat
