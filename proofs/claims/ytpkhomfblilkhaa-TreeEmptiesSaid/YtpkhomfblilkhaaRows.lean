/-
  No cell of these rows narrows 'for every input' (looked for: loops, veiled, ifaces, maps, wideKeys, modest, calm, conditions, laid).
  DERIVED. THE GIVEN ROWS OF THIS SEAT. 9 by the template 'for every input the law returns true; each argument reads behind the call as it read before'; 0 by the template 'total and deterministic' (their statements: YtpkhomfblilkhaaTotals.lean).
  GIVEN WITH THE SEED: the statements are not yours to turn. If you find one false, say at which input.
  Laid BY PROGRAM, IN A SANDBOX (cutbox-rows.mjs): the forced cells as the released guide's own fill.sh prints them over the translation baec07996090aff6… (all of the seat's roots in one cut). By AI agents, Wed Nov 11 2026. No macro, syntax, notation, axiom, sorry.
-/
import Derived.Test.YtpkhomfblilkhaaChecked
import GoSem.Claim
import GoSem.ClaimJoined
import GoSem.ClaimMapViews
import Derived.JoinedTies
import Derived.KernelRfl
namespace Go.Proofs.Ytpkhomfblilkhaa
/- THE CELL 'sum', in the pinned program and in every row, IS THE sha256 OF THE DUMP (.gsa) THAT YtpkhomfblilkhaaProg.lean LOADS. Nothing in Lean hashes anything: it is a label: what it is worth is what the hold of that sum in a sandbox is worth. -/
noncomputable def Try.pinned : Pinned := { name := "ytpkhomfblilkhaa", sum := "baec07996090aff639b0254173685d4fcd487c6426629000a21d4492e5a9c16c", checked := Try.checked }
namespace Rows
def none {H : Type} : Left H := { results := [], args := [] }

/-- 'peatbanklaw17.WalkNil': WHATEVER THE INPUT: true; the input reads as it did. -/
def walkNilSpec : ChangeSpec := { name := "walkNil", fn := fun _ => fun
  | [d1, d2] => { results := [.lit (.bool true)], args := [d1, d2] }
  | _ => none }
def walkNilRow : OpenClaim := { program := "ytpkhomfblilkhaa", sum := "baec07996090aff639b0254173685d4fcd487c6426629000a21d4492e5a9c16c", func := "peatbank/peatbanklaw17.WalkNil", spec := "walkNil", inPlace := ["internal/bytealg.Compare", "slices.overlaps[peatbank/api.Entry]", "slices.overlaps[peatbank/api.TreeKey]", "slices.overlaps[peatbank/tree.part]"], unfollowed := true, recurses := true, apart := false }
def WalkNilSaid : Prop := walkNilRow.holds Try.pinned (OpenSpec.ofChange walkNilSpec)

/-- ITS FALSE NEIGHBOUR: 'it returns false'. Refute it at one input. -/
def walkNilWrong : ChangeSpec := { name := "walkNil", fn := fun _ => fun
  | [d1, d2] => { results := [.lit (.bool false)], args := [d1, d2] }
  | _ => none }
def WalkNilWrongFalsely : Prop := walkNilRow.holds Try.pinned (OpenSpec.ofChange walkNilWrong)

/-- 'peatbanklaw17.WalkParts': WHATEVER THE INPUT: true; the input reads as it did. -/
def walkPartsSpec : ChangeSpec := { name := "walkParts", fn := fun _ => fun
  | [d1, d2, d3, d4] => { results := [.lit (.bool true)], args := [d1, d2, d3, d4] }
  | _ => none }
def walkPartsRow : OpenClaim := { program := "ytpkhomfblilkhaa", sum := "baec07996090aff639b0254173685d4fcd487c6426629000a21d4492e5a9c16c", func := "peatbank/peatbanklaw17.WalkParts", spec := "walkParts", inPlace := ["internal/bytealg.Compare", "slices.overlaps[peatbank/api.Entry]", "slices.overlaps[peatbank/api.TreeKey]", "slices.overlaps[peatbank/tree.part]"], unfollowed := true, recurses := true, apart := false }
def WalkPartsSaid : Prop := walkPartsRow.holds Try.pinned (OpenSpec.ofChange walkPartsSpec)

/-- ITS FALSE NEIGHBOUR: 'it returns false'. Refute it at one input. -/
def walkPartsWrong : ChangeSpec := { name := "walkParts", fn := fun _ => fun
  | [d1, d2, d3, d4] => { results := [.lit (.bool false)], args := [d1, d2, d3, d4] }
  | _ => none }
def WalkPartsWrongFalsely : Prop := walkPartsRow.holds Try.pinned (OpenSpec.ofChange walkPartsWrong)

/-- 'peatbanklaw17.WalkGoes': WHATEVER THE INPUT: true; the input reads as it did. -/
def walkGoesSpec : ChangeSpec := { name := "walkGoes", fn := fun _ => fun
  | [d1, d2, d3, d4] => { results := [.lit (.bool true)], args := [d1, d2, d3, d4] }
  | _ => none }
def walkGoesRow : OpenClaim := { program := "ytpkhomfblilkhaa", sum := "baec07996090aff639b0254173685d4fcd487c6426629000a21d4492e5a9c16c", func := "peatbank/peatbanklaw17.WalkGoes", spec := "walkGoes", inPlace := ["internal/bytealg.Compare", "slices.overlaps[peatbank/api.Entry]", "slices.overlaps[peatbank/api.TreeKey]", "slices.overlaps[peatbank/tree.part]"], unfollowed := true, recurses := true, apart := false }
def WalkGoesSaid : Prop := walkGoesRow.holds Try.pinned (OpenSpec.ofChange walkGoesSpec)

/-- ITS FALSE NEIGHBOUR: 'it returns false'. Refute it at one input. -/
def walkGoesWrong : ChangeSpec := { name := "walkGoes", fn := fun _ => fun
  | [d1, d2, d3, d4] => { results := [.lit (.bool false)], args := [d1, d2, d3, d4] }
  | _ => none }
def WalkGoesWrongFalsely : Prop := walkGoesRow.holds Try.pinned (OpenSpec.ofChange walkGoesWrong)

/-- 'peatbanklaw16.TreeOrders': WHATEVER THE INPUT: true; the input reads as it did. -/
def treeOrdersSpec : ChangeSpec := { name := "treeOrders", fn := fun _ => fun
  | [d1, d2, d3] => { results := [.lit (.bool true)], args := [d1, d2, d3] }
  | _ => none }
def treeOrdersRow : OpenClaim := { program := "ytpkhomfblilkhaa", sum := "baec07996090aff639b0254173685d4fcd487c6426629000a21d4492e5a9c16c", func := "peatbank/peatbanklaw16.TreeOrders", spec := "treeOrders", inPlace := ["internal/bytealg.Compare", "slices.overlaps[peatbank/api.Entry]", "slices.overlaps[peatbank/api.TreeKey]", "slices.overlaps[peatbank/tree.part]"], unfollowed := true, recurses := true, apart := false }
def TreeOrdersSaid : Prop := treeOrdersRow.holds Try.pinned (OpenSpec.ofChange treeOrdersSpec)

/-- ITS FALSE NEIGHBOUR: 'it returns false'. Refute it at one input. -/
def treeOrdersWrong : ChangeSpec := { name := "treeOrders", fn := fun _ => fun
  | [d1, d2, d3] => { results := [.lit (.bool false)], args := [d1, d2, d3] }
  | _ => none }
def TreeOrdersWrongFalsely : Prop := treeOrdersRow.holds Try.pinned (OpenSpec.ofChange treeOrdersWrong)

/-- 'peatbanklaw16.TreeEmpties': WHATEVER THE INPUT: true; the input reads as it did. -/
def treeEmptiesSpec : ChangeSpec := { name := "treeEmpties", fn := fun _ => fun
  | [d1, d2] => { results := [.lit (.bool true)], args := [d1, d2] }
  | _ => none }
def treeEmptiesRow : OpenClaim := { program := "ytpkhomfblilkhaa", sum := "baec07996090aff639b0254173685d4fcd487c6426629000a21d4492e5a9c16c", func := "peatbank/peatbanklaw16.TreeEmpties", spec := "treeEmpties", inPlace := ["internal/bytealg.Compare", "slices.overlaps[peatbank/api.Entry]", "slices.overlaps[peatbank/api.TreeKey]", "slices.overlaps[peatbank/tree.part]"], unfollowed := true, recurses := true, apart := false }
def TreeEmptiesSaid : Prop := treeEmptiesRow.holds Try.pinned (OpenSpec.ofChange treeEmptiesSpec)

/-- ITS FALSE NEIGHBOUR: 'it returns false'. Refute it at one input. -/
def treeEmptiesWrong : ChangeSpec := { name := "treeEmpties", fn := fun _ => fun
  | [d1, d2] => { results := [.lit (.bool false)], args := [d1, d2] }
  | _ => none }
def TreeEmptiesWrongFalsely : Prop := treeEmptiesRow.holds Try.pinned (OpenSpec.ofChange treeEmptiesWrong)

/-- 'peatbanklaw16.TreeDoes': WHATEVER THE INPUT: true; the input reads as it did. -/
def treeDoesSpec : ChangeSpec := { name := "treeDoes", fn := fun _ => fun
  | [d1, d2] => { results := [.lit (.bool true)], args := [d1, d2] }
  | _ => none }
def treeDoesRow : OpenClaim := { program := "ytpkhomfblilkhaa", sum := "baec07996090aff639b0254173685d4fcd487c6426629000a21d4492e5a9c16c", func := "peatbank/peatbanklaw16.TreeDoes", spec := "treeDoes", inPlace := ["internal/bytealg.Compare", "slices.overlaps[peatbank/api.Entry]", "slices.overlaps[peatbank/api.TreeKey]", "slices.overlaps[peatbank/tree.part]"], unfollowed := true, recurses := true, apart := false }
def TreeDoesSaid : Prop := treeDoesRow.holds Try.pinned (OpenSpec.ofChange treeDoesSpec)

/-- ITS FALSE NEIGHBOUR: 'it returns false'. Refute it at one input. -/
def treeDoesWrong : ChangeSpec := { name := "treeDoes", fn := fun _ => fun
  | [d1, d2] => { results := [.lit (.bool false)], args := [d1, d2] }
  | _ => none }
def TreeDoesWrongFalsely : Prop := treeDoesRow.holds Try.pinned (OpenSpec.ofChange treeDoesWrong)

/-- 'peatbanklaw16.TreeNone': WHATEVER THE INPUT: true; the input reads as it did. -/
def treeNoneSpec : ChangeSpec := { name := "treeNone", fn := fun _ => fun
  | [d] => { results := [.lit (.bool true)], args := [d] }
  | _ => none }
def treeNoneRow : OpenClaim := { program := "ytpkhomfblilkhaa", sum := "baec07996090aff639b0254173685d4fcd487c6426629000a21d4492e5a9c16c", func := "peatbank/peatbanklaw16.TreeNone", spec := "treeNone", inPlace := ["internal/bytealg.Compare", "slices.overlaps[peatbank/api.Entry]", "slices.overlaps[peatbank/api.TreeKey]", "slices.overlaps[peatbank/tree.part]"], unfollowed := true, recurses := true, apart := false }
def TreeNoneSaid : Prop := treeNoneRow.holds Try.pinned (OpenSpec.ofChange treeNoneSpec)

/-- ITS FALSE NEIGHBOUR: 'it returns false'. Refute it at one input. -/
def treeNoneWrong : ChangeSpec := { name := "treeNone", fn := fun _ => fun
  | [d] => { results := [.lit (.bool false)], args := [d] }
  | _ => none }
def TreeNoneWrongFalsely : Prop := treeNoneRow.holds Try.pinned (OpenSpec.ofChange treeNoneWrong)

/-- 'peatbanklaw16.TreeLoads': WHATEVER THE INPUT: true; the input reads as it did. -/
def treeLoadsSpec : ChangeSpec := { name := "treeLoads", fn := fun _ => fun
  | [d1, d2] => { results := [.lit (.bool true)], args := [d1, d2] }
  | _ => none }
def treeLoadsRow : OpenClaim := { program := "ytpkhomfblilkhaa", sum := "baec07996090aff639b0254173685d4fcd487c6426629000a21d4492e5a9c16c", func := "peatbank/peatbanklaw16.TreeLoads", spec := "treeLoads", inPlace := ["internal/bytealg.Compare", "slices.overlaps[peatbank/api.Entry]", "slices.overlaps[peatbank/api.TreeKey]", "slices.overlaps[peatbank/tree.part]"], unfollowed := true, recurses := true, apart := false }
def TreeLoadsSaid : Prop := treeLoadsRow.holds Try.pinned (OpenSpec.ofChange treeLoadsSpec)

/-- ITS FALSE NEIGHBOUR: 'it returns false'. Refute it at one input. -/
def treeLoadsWrong : ChangeSpec := { name := "treeLoads", fn := fun _ => fun
  | [d1, d2] => { results := [.lit (.bool false)], args := [d1, d2] }
  | _ => none }
def TreeLoadsWrongFalsely : Prop := treeLoadsRow.holds Try.pinned (OpenSpec.ofChange treeLoadsWrong)

/-- 'peatbanklaw16.TreeBack': WHATEVER THE INPUT: true; the input reads as it did. -/
def treeBackSpec : ChangeSpec := { name := "treeBack", fn := fun _ => fun
  | [d1, d2] => { results := [.lit (.bool true)], args := [d1, d2] }
  | _ => none }
def treeBackRow : OpenClaim := { program := "ytpkhomfblilkhaa", sum := "baec07996090aff639b0254173685d4fcd487c6426629000a21d4492e5a9c16c", func := "peatbank/peatbanklaw16.TreeBack", spec := "treeBack", inPlace := ["internal/bytealg.Compare", "slices.overlaps[peatbank/api.Entry]", "slices.overlaps[peatbank/api.TreeKey]", "slices.overlaps[peatbank/tree.part]"], unfollowed := true, recurses := true, apart := false }
def TreeBackSaid : Prop := treeBackRow.holds Try.pinned (OpenSpec.ofChange treeBackSpec)

/-- ITS FALSE NEIGHBOUR: 'it returns false'. Refute it at one input. -/
def treeBackWrong : ChangeSpec := { name := "treeBack", fn := fun _ => fun
  | [d1, d2] => { results := [.lit (.bool false)], args := [d1, d2] }
  | _ => none }
def TreeBackWrongFalsely : Prop := treeBackRow.holds Try.pinned (OpenSpec.ofChange treeBackWrong)

/- THE SECOND FORM. 'bulk': how many values and letters a reading holds, each counted each time it is reached (what is shared counts as often as it is met; a slice's spare places count too). A statement '..UptoSaid' is the law's where the arguments, and the package variables that the reading takes, are together of bulk at most 1048576: NARROWER than '..Said'. Prove '..Said' where nothing that the law and all that it calls make is longer than what came in: it says more and counts as full. Else prove '..UptoSaid'. A law counts once. -/
mutual
def uptoBulk {H : Type} : DataW H → Nat
  | .lit (.string bytes) => bytes.length + 1
  | .lit _ => 1
  | .nil => 1
  | .ptr d => uptoBulk d + 1
  | .slice elems spare => uptoBulkAll elems + uptoBulkAll spare + 1
  | .agg parts => uptoBulkAll parts + 1
  | .iface _ d => uptoBulk d + 1
  | .map entries => uptoBulkEntries entries + 1
  | .held _ => 1
def uptoBulkAll {H : Type} : List (DataW H) → Nat
  | [] => 0
  | d :: r => uptoBulk d + uptoBulkAll r
def uptoBulkEntries {H : Type} : List (Lit × DataW H) → Nat
  | [] => 0
  | x :: r => uptoBulkEntry x + uptoBulkEntries r
def uptoBulkEntry {H : Type} : Lit × DataW H → Nat
  | (.string bytes, d) => bytes.length + uptoBulk d + 1
  | (_, d) => uptoBulk d + 1
 end
def uptoSmall : (H : Type) → List (DataW H) → Bool := fun _ ds => decide (uptoBulkAll ds ≤ 1048576)
def OpenSpec.upto (s : _root_.Go.ChangeSpec) : _root_.Go.OpenSpec := { _root_.Go.OpenSpec.ofChange s with cond := some uptoSmall }

/-- 'peatbanklaw17.WalkNil', WHERE WHAT IT READS IS OF BULK AT MOST 1048576: true; the input reads as it did. -/
def walkNilUptoRow : OpenClaim := { program := "ytpkhomfblilkhaa", sum := "baec07996090aff639b0254173685d4fcd487c6426629000a21d4492e5a9c16c", func := "peatbank/peatbanklaw17.WalkNil", spec := "walkNil", inPlace := ["internal/bytealg.Compare", "slices.overlaps[peatbank/api.Entry]", "slices.overlaps[peatbank/api.TreeKey]", "slices.overlaps[peatbank/tree.part]"], unfollowed := true, recurses := true, apart := false, narrowed := true }
def WalkNilUptoSaid : Prop := walkNilUptoRow.holds Try.pinned (OpenSpec.upto walkNilSpec)

/-- 'peatbanklaw17.WalkParts', WHERE WHAT IT READS IS OF BULK AT MOST 1048576: true; the input reads as it did. -/
def walkPartsUptoRow : OpenClaim := { program := "ytpkhomfblilkhaa", sum := "baec07996090aff639b0254173685d4fcd487c6426629000a21d4492e5a9c16c", func := "peatbank/peatbanklaw17.WalkParts", spec := "walkParts", inPlace := ["internal/bytealg.Compare", "slices.overlaps[peatbank/api.Entry]", "slices.overlaps[peatbank/api.TreeKey]", "slices.overlaps[peatbank/tree.part]"], unfollowed := true, recurses := true, apart := false, narrowed := true }
def WalkPartsUptoSaid : Prop := walkPartsUptoRow.holds Try.pinned (OpenSpec.upto walkPartsSpec)

/-- 'peatbanklaw17.WalkGoes', WHERE WHAT IT READS IS OF BULK AT MOST 1048576: true; the input reads as it did. -/
def walkGoesUptoRow : OpenClaim := { program := "ytpkhomfblilkhaa", sum := "baec07996090aff639b0254173685d4fcd487c6426629000a21d4492e5a9c16c", func := "peatbank/peatbanklaw17.WalkGoes", spec := "walkGoes", inPlace := ["internal/bytealg.Compare", "slices.overlaps[peatbank/api.Entry]", "slices.overlaps[peatbank/api.TreeKey]", "slices.overlaps[peatbank/tree.part]"], unfollowed := true, recurses := true, apart := false, narrowed := true }
def WalkGoesUptoSaid : Prop := walkGoesUptoRow.holds Try.pinned (OpenSpec.upto walkGoesSpec)

/-- 'peatbanklaw16.TreeOrders', WHERE WHAT IT READS IS OF BULK AT MOST 1048576: true; the input reads as it did. -/
def treeOrdersUptoRow : OpenClaim := { program := "ytpkhomfblilkhaa", sum := "baec07996090aff639b0254173685d4fcd487c6426629000a21d4492e5a9c16c", func := "peatbank/peatbanklaw16.TreeOrders", spec := "treeOrders", inPlace := ["internal/bytealg.Compare", "slices.overlaps[peatbank/api.Entry]", "slices.overlaps[peatbank/api.TreeKey]", "slices.overlaps[peatbank/tree.part]"], unfollowed := true, recurses := true, apart := false, narrowed := true }
def TreeOrdersUptoSaid : Prop := treeOrdersUptoRow.holds Try.pinned (OpenSpec.upto treeOrdersSpec)

/-- 'peatbanklaw16.TreeEmpties', WHERE WHAT IT READS IS OF BULK AT MOST 1048576: true; the input reads as it did. -/
def treeEmptiesUptoRow : OpenClaim := { program := "ytpkhomfblilkhaa", sum := "baec07996090aff639b0254173685d4fcd487c6426629000a21d4492e5a9c16c", func := "peatbank/peatbanklaw16.TreeEmpties", spec := "treeEmpties", inPlace := ["internal/bytealg.Compare", "slices.overlaps[peatbank/api.Entry]", "slices.overlaps[peatbank/api.TreeKey]", "slices.overlaps[peatbank/tree.part]"], unfollowed := true, recurses := true, apart := false, narrowed := true }
def TreeEmptiesUptoSaid : Prop := treeEmptiesUptoRow.holds Try.pinned (OpenSpec.upto treeEmptiesSpec)

/-- 'peatbanklaw16.TreeDoes', WHERE WHAT IT READS IS OF BULK AT MOST 1048576: true; the input reads as it did. -/
def treeDoesUptoRow : OpenClaim := { program := "ytpkhomfblilkhaa", sum := "baec07996090aff639b0254173685d4fcd487c6426629000a21d4492e5a9c16c", func := "peatbank/peatbanklaw16.TreeDoes", spec := "treeDoes", inPlace := ["internal/bytealg.Compare", "slices.overlaps[peatbank/api.Entry]", "slices.overlaps[peatbank/api.TreeKey]", "slices.overlaps[peatbank/tree.part]"], unfollowed := true, recurses := true, apart := false, narrowed := true }
def TreeDoesUptoSaid : Prop := treeDoesUptoRow.holds Try.pinned (OpenSpec.upto treeDoesSpec)

/-- 'peatbanklaw16.TreeNone', WHERE WHAT IT READS IS OF BULK AT MOST 1048576: true; the input reads as it did. -/
def treeNoneUptoRow : OpenClaim := { program := "ytpkhomfblilkhaa", sum := "baec07996090aff639b0254173685d4fcd487c6426629000a21d4492e5a9c16c", func := "peatbank/peatbanklaw16.TreeNone", spec := "treeNone", inPlace := ["internal/bytealg.Compare", "slices.overlaps[peatbank/api.Entry]", "slices.overlaps[peatbank/api.TreeKey]", "slices.overlaps[peatbank/tree.part]"], unfollowed := true, recurses := true, apart := false, narrowed := true }
def TreeNoneUptoSaid : Prop := treeNoneUptoRow.holds Try.pinned (OpenSpec.upto treeNoneSpec)

/-- 'peatbanklaw16.TreeLoads', WHERE WHAT IT READS IS OF BULK AT MOST 1048576: true; the input reads as it did. -/
def treeLoadsUptoRow : OpenClaim := { program := "ytpkhomfblilkhaa", sum := "baec07996090aff639b0254173685d4fcd487c6426629000a21d4492e5a9c16c", func := "peatbank/peatbanklaw16.TreeLoads", spec := "treeLoads", inPlace := ["internal/bytealg.Compare", "slices.overlaps[peatbank/api.Entry]", "slices.overlaps[peatbank/api.TreeKey]", "slices.overlaps[peatbank/tree.part]"], unfollowed := true, recurses := true, apart := false, narrowed := true }
def TreeLoadsUptoSaid : Prop := treeLoadsUptoRow.holds Try.pinned (OpenSpec.upto treeLoadsSpec)

/-- 'peatbanklaw16.TreeBack', WHERE WHAT IT READS IS OF BULK AT MOST 1048576: true; the input reads as it did. -/
def treeBackUptoRow : OpenClaim := { program := "ytpkhomfblilkhaa", sum := "baec07996090aff639b0254173685d4fcd487c6426629000a21d4492e5a9c16c", func := "peatbank/peatbanklaw16.TreeBack", spec := "treeBack", inPlace := ["internal/bytealg.Compare", "slices.overlaps[peatbank/api.Entry]", "slices.overlaps[peatbank/api.TreeKey]", "slices.overlaps[peatbank/tree.part]"], unfollowed := true, recurses := true, apart := false, narrowed := true }
def TreeBackUptoSaid : Prop := treeBackUptoRow.holds Try.pinned (OpenSpec.upto treeBackSpec)

end Rows
end Go.Proofs.Ytpkhomfblilkhaa
