/-
  No cell of these rows narrows 'for every input' (looked for: loops, veiled, ifaces, maps, wideKeys, modest, calm, conditions, laid).
  DERIVED. THE GIVEN ROWS OF THIS SEAT. 12 by the template 'for every input the law returns true; each argument reads behind the call as it read before'; 0 by the template 'total and deterministic' (their statements: YbuabwTotals.lean).
  GIVEN WITH THE SEED: the statements are not yours to turn. If you find one false, say at which input.
  Laid BY PROGRAM, IN A SANDBOX (cutbox-rows.mjs): the forced cells as the released guide's own fill.sh prints them over the translation 0350e103336c77bd… (all of the seat's roots in one cut). By AI agents, Wed Nov 11 2026. No macro, syntax, notation, axiom, sorry.
-/
import Derived.Test.YbuabwChecked
import GoSem.Claim
import GoSem.ClaimJoined
import GoSem.ClaimMapViews
import Derived.JoinedTies
import Derived.KernelRfl
namespace Go.Proofs.Ybuabw
/- THE CELL 'sum', in the pinned program and in every row, IS THE sha256 OF THE DUMP (.gsa) THAT YbuabwProg.lean LOADS. Nothing in Lean hashes anything: it is a label: what it is worth is what the hold of that sum in a sandbox is worth. -/
noncomputable def Yabc.pinned : Pinned := { name := "ybuabw", sum := "0350e103336c77bdd92dae2e224f50432666782542a41479f5bc3e7181888aaa", checked := Yabc.checked }
namespace Rows
def none {H : Type} : Left H := { results := [], args := [] }

/-- 'laws.FnTotal': WHATEVER THE INPUT: true; the input reads as it did. -/
def fnTotalSpec : ChangeSpec := { name := "fnTotal", fn := fun _ => fun
  | [d] => { results := [.lit (.bool true)], args := [d] }
  | _ => none }
def fnTotalRow : OpenClaim := { program := "ybuabw", sum := "0350e103336c77bdd92dae2e224f50432666782542a41479f5bc3e7181888aaa", func := "loop.example/c011/laws.FnTotal", spec := "fnTotal", apart := false }
def FnTotalSaid : Prop := fnTotalRow.holds Yabc.pinned (OpenSpec.ofChange fnTotalSpec)

/-- ITS FALSE NEIGHBOUR: 'it returns false'. Refute it at one input. -/
def fnTotalWrong : ChangeSpec := { name := "fnTotal", fn := fun _ => fun
  | [d] => { results := [.lit (.bool false)], args := [d] }
  | _ => none }
def FnTotalWrongFalsely : Prop := fnTotalRow.holds Yabc.pinned (OpenSpec.ofChange fnTotalWrong)

/-- 'laws.FnExactSplitLines': WHATEVER THE INPUT: true; the input reads as it did. -/
def fnExactSplitLinesSpec : ChangeSpec := { name := "fnExactSplitLines", fn := fun _ => fun
  | [d] => { results := [.lit (.bool true)], args := [d] }
  | _ => none }
def fnExactSplitLinesRow : OpenClaim := { program := "ybuabw", sum := "0350e103336c77bdd92dae2e224f50432666782542a41479f5bc3e7181888aaa", func := "loop.example/c011/laws.FnExactSplitLines", spec := "fnExactSplitLines", apart := false }
def FnExactSplitLinesSaid : Prop := fnExactSplitLinesRow.holds Yabc.pinned (OpenSpec.ofChange fnExactSplitLinesSpec)

/-- ITS FALSE NEIGHBOUR: 'it returns false'. Refute it at one input. -/
def fnExactSplitLinesWrong : ChangeSpec := { name := "fnExactSplitLines", fn := fun _ => fun
  | [d] => { results := [.lit (.bool false)], args := [d] }
  | _ => none }
def FnExactSplitLinesWrongFalsely : Prop := fnExactSplitLinesRow.holds Yabc.pinned (OpenSpec.ofChange fnExactSplitLinesWrong)

/-- 'laws.FnExactClassifyLine': WHATEVER THE INPUT: true; the input reads as it did. -/
def fnExactClassifyLineSpec : ChangeSpec := { name := "fnExactClassifyLine", fn := fun _ => fun
  | [d] => { results := [.lit (.bool true)], args := [d] }
  | _ => none }
def fnExactClassifyLineRow : OpenClaim := { program := "ybuabw", sum := "0350e103336c77bdd92dae2e224f50432666782542a41479f5bc3e7181888aaa", func := "loop.example/c011/laws.FnExactClassifyLine", spec := "fnExactClassifyLine", apart := false }
def FnExactClassifyLineSaid : Prop := fnExactClassifyLineRow.holds Yabc.pinned (OpenSpec.ofChange fnExactClassifyLineSpec)

/-- ITS FALSE NEIGHBOUR: 'it returns false'. Refute it at one input. -/
def fnExactClassifyLineWrong : ChangeSpec := { name := "fnExactClassifyLine", fn := fun _ => fun
  | [d] => { results := [.lit (.bool false)], args := [d] }
  | _ => none }
def FnExactClassifyLineWrongFalsely : Prop := fnExactClassifyLineRow.holds Yabc.pinned (OpenSpec.ofChange fnExactClassifyLineWrong)

/-- 'laws.FnExactParseBlocks': WHATEVER THE INPUT: true; the input reads as it did. -/
def fnExactParseBlocksSpec : ChangeSpec := { name := "fnExactParseBlocks", fn := fun _ => fun
  | [d] => { results := [.lit (.bool true)], args := [d] }
  | _ => none }
def fnExactParseBlocksRow : OpenClaim := { program := "ybuabw", sum := "0350e103336c77bdd92dae2e224f50432666782542a41479f5bc3e7181888aaa", func := "loop.example/c011/laws.FnExactParseBlocks", spec := "fnExactParseBlocks", apart := false }
def FnExactParseBlocksSaid : Prop := fnExactParseBlocksRow.holds Yabc.pinned (OpenSpec.ofChange fnExactParseBlocksSpec)

/-- ITS FALSE NEIGHBOUR: 'it returns false'. Refute it at one input. -/
def fnExactParseBlocksWrong : ChangeSpec := { name := "fnExactParseBlocks", fn := fun _ => fun
  | [d] => { results := [.lit (.bool false)], args := [d] }
  | _ => none }
def FnExactParseBlocksWrongFalsely : Prop := fnExactParseBlocksRow.holds Yabc.pinned (OpenSpec.ofChange fnExactParseBlocksWrong)

/-- 'laws.FnExactParseInline': WHATEVER THE INPUT: true; the input reads as it did. -/
def fnExactParseInlineSpec : ChangeSpec := { name := "fnExactParseInline", fn := fun _ => fun
  | [d] => { results := [.lit (.bool true)], args := [d] }
  | _ => none }
def fnExactParseInlineRow : OpenClaim := { program := "ybuabw", sum := "0350e103336c77bdd92dae2e224f50432666782542a41479f5bc3e7181888aaa", func := "loop.example/c011/laws.FnExactParseInline", spec := "fnExactParseInline", apart := false }
def FnExactParseInlineSaid : Prop := fnExactParseInlineRow.holds Yabc.pinned (OpenSpec.ofChange fnExactParseInlineSpec)

/-- ITS FALSE NEIGHBOUR: 'it returns false'. Refute it at one input. -/
def fnExactParseInlineWrong : ChangeSpec := { name := "fnExactParseInline", fn := fun _ => fun
  | [d] => { results := [.lit (.bool false)], args := [d] }
  | _ => none }
def FnExactParseInlineWrongFalsely : Prop := fnExactParseInlineRow.holds Yabc.pinned (OpenSpec.ofChange fnExactParseInlineWrong)

/-- 'laws.FnExactUnparse': WHATEVER THE INPUT: true; the input reads as it did. -/
def fnExactUnparseSpec : ChangeSpec := { name := "fnExactUnparse", fn := fun _ => fun
  | [d] => { results := [.lit (.bool true)], args := [d] }
  | _ => none }
def fnExactUnparseRow : OpenClaim := { program := "ybuabw", sum := "0350e103336c77bdd92dae2e224f50432666782542a41479f5bc3e7181888aaa", func := "loop.example/c011/laws.FnExactUnparse", spec := "fnExactUnparse", apart := false }
def FnExactUnparseSaid : Prop := fnExactUnparseRow.holds Yabc.pinned (OpenSpec.ofChange fnExactUnparseSpec)

/-- ITS FALSE NEIGHBOUR: 'it returns false'. Refute it at one input. -/
def fnExactUnparseWrong : ChangeSpec := { name := "fnExactUnparse", fn := fun _ => fun
  | [d] => { results := [.lit (.bool false)], args := [d] }
  | _ => none }
def FnExactUnparseWrongFalsely : Prop := fnExactUnparseRow.holds Yabc.pinned (OpenSpec.ofChange fnExactUnparseWrong)

/-- 'laws.FnExactNormalize': WHATEVER THE INPUT: true; the input reads as it did. -/
def fnExactNormalizeSpec : ChangeSpec := { name := "fnExactNormalize", fn := fun _ => fun
  | [d] => { results := [.lit (.bool true)], args := [d] }
  | _ => none }
def fnExactNormalizeRow : OpenClaim := { program := "ybuabw", sum := "0350e103336c77bdd92dae2e224f50432666782542a41479f5bc3e7181888aaa", func := "loop.example/c011/laws.FnExactNormalize", spec := "fnExactNormalize", apart := false }
def FnExactNormalizeSaid : Prop := fnExactNormalizeRow.holds Yabc.pinned (OpenSpec.ofChange fnExactNormalizeSpec)

/-- ITS FALSE NEIGHBOUR: 'it returns false'. Refute it at one input. -/
def fnExactNormalizeWrong : ChangeSpec := { name := "fnExactNormalize", fn := fun _ => fun
  | [d] => { results := [.lit (.bool false)], args := [d] }
  | _ => none }
def FnExactNormalizeWrongFalsely : Prop := fnExactNormalizeRow.holds Yabc.pinned (OpenSpec.ofChange fnExactNormalizeWrong)

/-- 'laws.FnExactLayout': WHATEVER THE INPUT: true; the input reads as it did. -/
def fnExactLayoutSpec : ChangeSpec := { name := "fnExactLayout", fn := fun _ => fun
  | [d1, d2] => { results := [.lit (.bool true)], args := [d1, d2] }
  | _ => none }
def fnExactLayoutRow : OpenClaim := { program := "ybuabw", sum := "0350e103336c77bdd92dae2e224f50432666782542a41479f5bc3e7181888aaa", func := "loop.example/c011/laws.FnExactLayout", spec := "fnExactLayout", apart := false }
def FnExactLayoutSaid : Prop := fnExactLayoutRow.holds Yabc.pinned (OpenSpec.ofChange fnExactLayoutSpec)

/-- ITS FALSE NEIGHBOUR: 'it returns false'. Refute it at one input. -/
def fnExactLayoutWrong : ChangeSpec := { name := "fnExactLayout", fn := fun _ => fun
  | [d1, d2] => { results := [.lit (.bool false)], args := [d1, d2] }
  | _ => none }
def FnExactLayoutWrongFalsely : Prop := fnExactLayoutRow.holds Yabc.pinned (OpenSpec.ofChange fnExactLayoutWrong)

/-- 'laws.FnExactRenderLines': WHATEVER THE INPUT: true; the input reads as it did. -/
def fnExactRenderLinesSpec : ChangeSpec := { name := "fnExactRenderLines", fn := fun _ => fun
  | [d] => { results := [.lit (.bool true)], args := [d] }
  | _ => none }
def fnExactRenderLinesRow : OpenClaim := { program := "ybuabw", sum := "0350e103336c77bdd92dae2e224f50432666782542a41479f5bc3e7181888aaa", func := "loop.example/c011/laws.FnExactRenderLines", spec := "fnExactRenderLines", apart := false }
def FnExactRenderLinesSaid : Prop := fnExactRenderLinesRow.holds Yabc.pinned (OpenSpec.ofChange fnExactRenderLinesSpec)

/-- ITS FALSE NEIGHBOUR: 'it returns false'. Refute it at one input. -/
def fnExactRenderLinesWrong : ChangeSpec := { name := "fnExactRenderLines", fn := fun _ => fun
  | [d] => { results := [.lit (.bool false)], args := [d] }
  | _ => none }
def FnExactRenderLinesWrongFalsely : Prop := fnExactRenderLinesRow.holds Yabc.pinned (OpenSpec.ofChange fnExactRenderLinesWrong)

/-- 'laws.FnExactRenderBlock': WHATEVER THE INPUT: true; the input reads as it did. -/
def fnExactRenderBlockSpec : ChangeSpec := { name := "fnExactRenderBlock", fn := fun _ => fun
  | [d1, d2] => { results := [.lit (.bool true)], args := [d1, d2] }
  | _ => none }
def fnExactRenderBlockRow : OpenClaim := { program := "ybuabw", sum := "0350e103336c77bdd92dae2e224f50432666782542a41479f5bc3e7181888aaa", func := "loop.example/c011/laws.FnExactRenderBlock", spec := "fnExactRenderBlock", apart := false }
def FnExactRenderBlockSaid : Prop := fnExactRenderBlockRow.holds Yabc.pinned (OpenSpec.ofChange fnExactRenderBlockSpec)

/-- ITS FALSE NEIGHBOUR: 'it returns false'. Refute it at one input. -/
def fnExactRenderBlockWrong : ChangeSpec := { name := "fnExactRenderBlock", fn := fun _ => fun
  | [d1, d2] => { results := [.lit (.bool false)], args := [d1, d2] }
  | _ => none }
def FnExactRenderBlockWrongFalsely : Prop := fnExactRenderBlockRow.holds Yabc.pinned (OpenSpec.ofChange fnExactRenderBlockWrong)

/-- 'laws.FnExactRenderAll': WHATEVER THE INPUT: true; the input reads as it did. -/
def fnExactRenderAllSpec : ChangeSpec := { name := "fnExactRenderAll", fn := fun _ => fun
  | [d1, d2] => { results := [.lit (.bool true)], args := [d1, d2] }
  | _ => none }
def fnExactRenderAllRow : OpenClaim := { program := "ybuabw", sum := "0350e103336c77bdd92dae2e224f50432666782542a41479f5bc3e7181888aaa", func := "loop.example/c011/laws.FnExactRenderAll", spec := "fnExactRenderAll", apart := false }
def FnExactRenderAllSaid : Prop := fnExactRenderAllRow.holds Yabc.pinned (OpenSpec.ofChange fnExactRenderAllSpec)

/-- ITS FALSE NEIGHBOUR: 'it returns false'. Refute it at one input. -/
def fnExactRenderAllWrong : ChangeSpec := { name := "fnExactRenderAll", fn := fun _ => fun
  | [d1, d2] => { results := [.lit (.bool false)], args := [d1, d2] }
  | _ => none }
def FnExactRenderAllWrongFalsely : Prop := fnExactRenderAllRow.holds Yabc.pinned (OpenSpec.ofChange fnExactRenderAllWrong)

/-- 'laws.FnExactRender': WHATEVER THE INPUT: true; the input reads as it did. -/
def fnExactRenderSpec : ChangeSpec := { name := "fnExactRender", fn := fun _ => fun
  | [d1, d2] => { results := [.lit (.bool true)], args := [d1, d2] }
  | _ => none }
def fnExactRenderRow : OpenClaim := { program := "ybuabw", sum := "0350e103336c77bdd92dae2e224f50432666782542a41479f5bc3e7181888aaa", func := "loop.example/c011/laws.FnExactRender", spec := "fnExactRender", apart := false }
def FnExactRenderSaid : Prop := fnExactRenderRow.holds Yabc.pinned (OpenSpec.ofChange fnExactRenderSpec)

/-- ITS FALSE NEIGHBOUR: 'it returns false'. Refute it at one input. -/
def fnExactRenderWrong : ChangeSpec := { name := "fnExactRender", fn := fun _ => fun
  | [d1, d2] => { results := [.lit (.bool false)], args := [d1, d2] }
  | _ => none }
def FnExactRenderWrongFalsely : Prop := fnExactRenderRow.holds Yabc.pinned (OpenSpec.ofChange fnExactRenderWrong)

end Rows
end Go.Proofs.Ybuabw
