/-
  No cell of these rows narrows 'for every input' (looked for: loops, veiled, ifaces, maps, wideKeys, modest, calm, conditions, laid).
  DERIVED. THE GIVEN ROWS OF THIS SEAT. 10 by the template 'for every input the law returns true; each argument reads behind the call as it read before'; 0 by the template 'total and deterministic' (their statements: YtobpbnbjdpdflaaTotals.lean).
  GIVEN WITH THE SEED: the statements are not yours to turn. If you find one false, say at which input.
  Laid BY PROGRAM, IN A SANDBOX (cutbox-rows.mjs): the forced cells as the released guide's own fill.sh prints them over the translation 59eaba1820f04c4b… (all of the seat's roots in one cut). By AI agents, Wed Nov 11 2026. No macro, syntax, notation, axiom, sorry.
-/
import Derived.Test.YtobpbnbjdpdflaaChecked
import GoSem.Claim
import GoSem.ClaimJoined
import GoSem.ClaimMapViews
import Derived.JoinedTies
import Derived.KernelRfl
namespace Go.Proofs.Ytobpbnbjdpdflaa
/- THE CELL 'sum', in the pinned program and in every row, IS THE sha256 OF THE DUMP (.gsa) THAT YtobpbnbjdpdflaaProg.lean LOADS. Nothing in Lean hashes anything: it is a label: what it is worth is what the hold of that sum in a sandbox is worth. -/
noncomputable def Try.pinned : Pinned := { name := "ytobpbnbjdpdflaa", sum := "59eaba1820f04c4b8692950c3dbb91029f806a9a2998fbe17d92792c33361299", checked := Try.checked }
namespace Rows
def none {H : Type} : Left H := { results := [], args := [] }

/-- 'laws.FnExactMakeName': WHATEVER THE INPUT: true; the input reads as it did. -/
def fnExactMakeNameSpec : ChangeSpec := { name := "fnExactMakeName", fn := fun _ => fun
  | [d1, d2] => { results := [.lit (.bool true)], args := [d1, d2] }
  | _ => none }
def fnExactMakeNameRow : OpenClaim := { program := "ytobpbnbjdpdflaa", sum := "59eaba1820f04c4b8692950c3dbb91029f806a9a2998fbe17d92792c33361299", func := "loop.example/g00594/laws.FnExactMakeName", spec := "fnExactMakeName", apart := false }
def FnExactMakeNameSaid : Prop := fnExactMakeNameRow.holds Try.pinned (OpenSpec.ofChange fnExactMakeNameSpec)

/-- ITS FALSE NEIGHBOUR: 'it returns false'. Refute it at one input. -/
def fnExactMakeNameWrong : ChangeSpec := { name := "fnExactMakeName", fn := fun _ => fun
  | [d1, d2] => { results := [.lit (.bool false)], args := [d1, d2] }
  | _ => none }
def FnExactMakeNameWrongFalsely : Prop := fnExactMakeNameRow.holds Try.pinned (OpenSpec.ofChange fnExactMakeNameWrong)

/-- 'laws.FnExactMod': WHATEVER THE INPUT: true; the input reads as it did. -/
def fnExactModSpec : ChangeSpec := { name := "fnExactMod", fn := fun _ => fun
  | [d1, d2] => { results := [.lit (.bool true)], args := [d1, d2] }
  | _ => none }
def fnExactModRow : OpenClaim := { program := "ytobpbnbjdpdflaa", sum := "59eaba1820f04c4b8692950c3dbb91029f806a9a2998fbe17d92792c33361299", func := "loop.example/g00594/laws.FnExactMod", spec := "fnExactMod", apart := false }
def FnExactModSaid : Prop := fnExactModRow.holds Try.pinned (OpenSpec.ofChange fnExactModSpec)

/-- ITS FALSE NEIGHBOUR: 'it returns false'. Refute it at one input. -/
def fnExactModWrong : ChangeSpec := { name := "fnExactMod", fn := fun _ => fun
  | [d1, d2] => { results := [.lit (.bool false)], args := [d1, d2] }
  | _ => none }
def FnExactModWrongFalsely : Prop := fnExactModRow.holds Try.pinned (OpenSpec.ofChange fnExactModWrong)

/-- 'laws.FnExactAgeOf': WHATEVER THE INPUT: true; the input reads as it did. -/
def fnExactAgeOfSpec : ChangeSpec := { name := "fnExactAgeOf", fn := fun _ => fun
  | [d1, d2] => { results := [.lit (.bool true)], args := [d1, d2] }
  | _ => none }
def fnExactAgeOfRow : OpenClaim := { program := "ytobpbnbjdpdflaa", sum := "59eaba1820f04c4b8692950c3dbb91029f806a9a2998fbe17d92792c33361299", func := "loop.example/g00594/laws.FnExactAgeOf", spec := "fnExactAgeOf", apart := false }
def FnExactAgeOfSaid : Prop := fnExactAgeOfRow.holds Try.pinned (OpenSpec.ofChange fnExactAgeOfSpec)

/-- ITS FALSE NEIGHBOUR: 'it returns false'. Refute it at one input. -/
def fnExactAgeOfWrong : ChangeSpec := { name := "fnExactAgeOf", fn := fun _ => fun
  | [d1, d2] => { results := [.lit (.bool false)], args := [d1, d2] }
  | _ => none }
def FnExactAgeOfWrongFalsely : Prop := fnExactAgeOfRow.holds Try.pinned (OpenSpec.ofChange fnExactAgeOfWrong)

/-- 'laws.FnExactKindOf': WHATEVER THE INPUT: true; the input reads as it did. -/
def fnExactKindOfSpec : ChangeSpec := { name := "fnExactKindOf", fn := fun _ => fun
  | [d] => { results := [.lit (.bool true)], args := [d] }
  | _ => none }
def fnExactKindOfRow : OpenClaim := { program := "ytobpbnbjdpdflaa", sum := "59eaba1820f04c4b8692950c3dbb91029f806a9a2998fbe17d92792c33361299", func := "loop.example/g00594/laws.FnExactKindOf", spec := "fnExactKindOf", apart := false }
def FnExactKindOfSaid : Prop := fnExactKindOfRow.holds Try.pinned (OpenSpec.ofChange fnExactKindOfSpec)

/-- ITS FALSE NEIGHBOUR: 'it returns false'. Refute it at one input. -/
def fnExactKindOfWrong : ChangeSpec := { name := "fnExactKindOf", fn := fun _ => fun
  | [d] => { results := [.lit (.bool false)], args := [d] }
  | _ => none }
def FnExactKindOfWrongFalsely : Prop := fnExactKindOfRow.holds Try.pinned (OpenSpec.ofChange fnExactKindOfWrong)

/-- 'laws.FnExactLeftOf': WHATEVER THE INPUT: true; the input reads as it did. -/
def fnExactLeftOfSpec : ChangeSpec := { name := "fnExactLeftOf", fn := fun _ => fun
  | [d1, d2] => { results := [.lit (.bool true)], args := [d1, d2] }
  | _ => none }
def fnExactLeftOfRow : OpenClaim := { program := "ytobpbnbjdpdflaa", sum := "59eaba1820f04c4b8692950c3dbb91029f806a9a2998fbe17d92792c33361299", func := "loop.example/g00594/laws.FnExactLeftOf", spec := "fnExactLeftOf", apart := false }
def FnExactLeftOfSaid : Prop := fnExactLeftOfRow.holds Try.pinned (OpenSpec.ofChange fnExactLeftOfSpec)

/-- ITS FALSE NEIGHBOUR: 'it returns false'. Refute it at one input. -/
def fnExactLeftOfWrong : ChangeSpec := { name := "fnExactLeftOf", fn := fun _ => fun
  | [d1, d2] => { results := [.lit (.bool false)], args := [d1, d2] }
  | _ => none }
def FnExactLeftOfWrongFalsely : Prop := fnExactLeftOfRow.holds Try.pinned (OpenSpec.ofChange fnExactLeftOfWrong)

/-- 'laws.FnExactEndOf': WHATEVER THE INPUT: true; the input reads as it did. -/
def fnExactEndOfSpec : ChangeSpec := { name := "fnExactEndOf", fn := fun _ => fun
  | [d1, d2] => { results := [.lit (.bool true)], args := [d1, d2] }
  | _ => none }
def fnExactEndOfRow : OpenClaim := { program := "ytobpbnbjdpdflaa", sum := "59eaba1820f04c4b8692950c3dbb91029f806a9a2998fbe17d92792c33361299", func := "loop.example/g00594/laws.FnExactEndOf", spec := "fnExactEndOf", apart := false }
def FnExactEndOfSaid : Prop := fnExactEndOfRow.holds Try.pinned (OpenSpec.ofChange fnExactEndOfSpec)

/-- ITS FALSE NEIGHBOUR: 'it returns false'. Refute it at one input. -/
def fnExactEndOfWrong : ChangeSpec := { name := "fnExactEndOf", fn := fun _ => fun
  | [d1, d2] => { results := [.lit (.bool false)], args := [d1, d2] }
  | _ => none }
def FnExactEndOfWrongFalsely : Prop := fnExactEndOfRow.holds Try.pinned (OpenSpec.ofChange fnExactEndOfWrong)

/-- 'laws.FnExactSameClaim': WHATEVER THE INPUT: true; the input reads as it did. -/
def fnExactSameClaimSpec : ChangeSpec := { name := "fnExactSameClaim", fn := fun _ => fun
  | [d1, d2] => { results := [.lit (.bool true)], args := [d1, d2] }
  | _ => none }
def fnExactSameClaimRow : OpenClaim := { program := "ytobpbnbjdpdflaa", sum := "59eaba1820f04c4b8692950c3dbb91029f806a9a2998fbe17d92792c33361299", func := "loop.example/g00594/laws.FnExactSameClaim", spec := "fnExactSameClaim", apart := false }
def FnExactSameClaimSaid : Prop := fnExactSameClaimRow.holds Try.pinned (OpenSpec.ofChange fnExactSameClaimSpec)

/-- ITS FALSE NEIGHBOUR: 'it returns false'. Refute it at one input. -/
def fnExactSameClaimWrong : ChangeSpec := { name := "fnExactSameClaim", fn := fun _ => fun
  | [d1, d2] => { results := [.lit (.bool false)], args := [d1, d2] }
  | _ => none }
def FnExactSameClaimWrongFalsely : Prop := fnExactSameClaimRow.holds Try.pinned (OpenSpec.ofChange fnExactSameClaimWrong)

/-- 'laws.FnExactIsFresh': WHATEVER THE INPUT: true; the input reads as it did. -/
def fnExactIsFreshSpec : ChangeSpec := { name := "fnExactIsFresh", fn := fun _ => fun
  | [d1, d2, d3] => { results := [.lit (.bool true)], args := [d1, d2, d3] }
  | _ => none }
def fnExactIsFreshRow : OpenClaim := { program := "ytobpbnbjdpdflaa", sum := "59eaba1820f04c4b8692950c3dbb91029f806a9a2998fbe17d92792c33361299", func := "loop.example/g00594/laws.FnExactIsFresh", spec := "fnExactIsFresh", apart := false }
def FnExactIsFreshSaid : Prop := fnExactIsFreshRow.holds Try.pinned (OpenSpec.ofChange fnExactIsFreshSpec)

/-- ITS FALSE NEIGHBOUR: 'it returns false'. Refute it at one input. -/
def fnExactIsFreshWrong : ChangeSpec := { name := "fnExactIsFresh", fn := fun _ => fun
  | [d1, d2, d3] => { results := [.lit (.bool false)], args := [d1, d2, d3] }
  | _ => none }
def FnExactIsFreshWrongFalsely : Prop := fnExactIsFreshRow.holds Try.pinned (OpenSpec.ofChange fnExactIsFreshWrong)

/-- 'laws.FnExactEqualBytes': WHATEVER THE INPUT: true; the input reads as it did. -/
def fnExactEqualBytesSpec : ChangeSpec := { name := "fnExactEqualBytes", fn := fun _ => fun
  | [d1, d2] => { results := [.lit (.bool true)], args := [d1, d2] }
  | _ => none }
def fnExactEqualBytesRow : OpenClaim := { program := "ytobpbnbjdpdflaa", sum := "59eaba1820f04c4b8692950c3dbb91029f806a9a2998fbe17d92792c33361299", func := "loop.example/g00594/laws.FnExactEqualBytes", spec := "fnExactEqualBytes", apart := false }
def FnExactEqualBytesSaid : Prop := fnExactEqualBytesRow.holds Try.pinned (OpenSpec.ofChange fnExactEqualBytesSpec)

/-- ITS FALSE NEIGHBOUR: 'it returns false'. Refute it at one input. -/
def fnExactEqualBytesWrong : ChangeSpec := { name := "fnExactEqualBytes", fn := fun _ => fun
  | [d1, d2] => { results := [.lit (.bool false)], args := [d1, d2] }
  | _ => none }
def FnExactEqualBytesWrongFalsely : Prop := fnExactEqualBytesRow.holds Try.pinned (OpenSpec.ofChange fnExactEqualBytesWrong)

/-- 'laws.FnExactFactBefore': WHATEVER THE INPUT: true; the input reads as it did. -/
def fnExactFactBeforeSpec : ChangeSpec := { name := "fnExactFactBefore", fn := fun _ => fun
  | [d1, d2] => { results := [.lit (.bool true)], args := [d1, d2] }
  | _ => none }
def fnExactFactBeforeRow : OpenClaim := { program := "ytobpbnbjdpdflaa", sum := "59eaba1820f04c4b8692950c3dbb91029f806a9a2998fbe17d92792c33361299", func := "loop.example/g00594/laws.FnExactFactBefore", spec := "fnExactFactBefore", apart := false }
def FnExactFactBeforeSaid : Prop := fnExactFactBeforeRow.holds Try.pinned (OpenSpec.ofChange fnExactFactBeforeSpec)

/-- ITS FALSE NEIGHBOUR: 'it returns false'. Refute it at one input. -/
def fnExactFactBeforeWrong : ChangeSpec := { name := "fnExactFactBefore", fn := fun _ => fun
  | [d1, d2] => { results := [.lit (.bool false)], args := [d1, d2] }
  | _ => none }
def FnExactFactBeforeWrongFalsely : Prop := fnExactFactBeforeRow.holds Try.pinned (OpenSpec.ofChange fnExactFactBeforeWrong)

/- THE SECOND FORM. 'bulk': how many values and letters a reading holds, each counted each time it is reached (what is shared counts as often as it is met; a slice's spare places count too). A statement '..UptoSaid' is the law's where the arguments, and the package variables that the reading takes, are together of bulk at most 1048576: NARROWER than '..Said'. Prove '..Said' where nothing that the law and all that it calls make is longer than what came in: it says more and counts as full. Else prove '..UptoSaid'. A law counts once. -/
mutual
def uptoBulk {H : Type} : DataW H → Nat
  | .lit (.string bytes) => bytes.length + 1
  | .lit _ => 1
  | .nil => 1
  | .ptr d => uptoBulk d + 1
  | .slice elems spare => uptoBulkAll elems + uptoBulkAll spare + 1
  | .agg parts => uptoBulkAll parts + 1
  | .iface _ d => uptoBulk d + 1
  | .map entries => uptoBulkEntries entries + 1
  | .held _ => 1
def uptoBulkAll {H : Type} : List (DataW H) → Nat
  | [] => 0
  | d :: r => uptoBulk d + uptoBulkAll r
def uptoBulkEntries {H : Type} : List (Lit × DataW H) → Nat
  | [] => 0
  | x :: r => uptoBulkEntry x + uptoBulkEntries r
def uptoBulkEntry {H : Type} : Lit × DataW H → Nat
  | (.string bytes, d) => bytes.length + uptoBulk d + 1
  | (_, d) => uptoBulk d + 1
 end
def uptoSmall : (H : Type) → List (DataW H) → Bool := fun _ ds => decide (uptoBulkAll ds ≤ 1048576)
def OpenSpec.upto (s : _root_.Go.ChangeSpec) : _root_.Go.OpenSpec := { _root_.Go.OpenSpec.ofChange s with cond := some uptoSmall }

/-- 'laws.FnExactMakeName', WHERE WHAT IT READS IS OF BULK AT MOST 1048576: true; the input reads as it did. -/
def fnExactMakeNameUptoRow : OpenClaim := { program := "ytobpbnbjdpdflaa", sum := "59eaba1820f04c4b8692950c3dbb91029f806a9a2998fbe17d92792c33361299", func := "loop.example/g00594/laws.FnExactMakeName", spec := "fnExactMakeName", apart := false, narrowed := true }
def FnExactMakeNameUptoSaid : Prop := fnExactMakeNameUptoRow.holds Try.pinned (OpenSpec.upto fnExactMakeNameSpec)

/-- 'laws.FnExactMod', WHERE WHAT IT READS IS OF BULK AT MOST 1048576: true; the input reads as it did. -/
def fnExactModUptoRow : OpenClaim := { program := "ytobpbnbjdpdflaa", sum := "59eaba1820f04c4b8692950c3dbb91029f806a9a2998fbe17d92792c33361299", func := "loop.example/g00594/laws.FnExactMod", spec := "fnExactMod", apart := false, narrowed := true }
def FnExactModUptoSaid : Prop := fnExactModUptoRow.holds Try.pinned (OpenSpec.upto fnExactModSpec)

/-- 'laws.FnExactAgeOf', WHERE WHAT IT READS IS OF BULK AT MOST 1048576: true; the input reads as it did. -/
def fnExactAgeOfUptoRow : OpenClaim := { program := "ytobpbnbjdpdflaa", sum := "59eaba1820f04c4b8692950c3dbb91029f806a9a2998fbe17d92792c33361299", func := "loop.example/g00594/laws.FnExactAgeOf", spec := "fnExactAgeOf", apart := false, narrowed := true }
def FnExactAgeOfUptoSaid : Prop := fnExactAgeOfUptoRow.holds Try.pinned (OpenSpec.upto fnExactAgeOfSpec)

/-- 'laws.FnExactKindOf', WHERE WHAT IT READS IS OF BULK AT MOST 1048576: true; the input reads as it did. -/
def fnExactKindOfUptoRow : OpenClaim := { program := "ytobpbnbjdpdflaa", sum := "59eaba1820f04c4b8692950c3dbb91029f806a9a2998fbe17d92792c33361299", func := "loop.example/g00594/laws.FnExactKindOf", spec := "fnExactKindOf", apart := false, narrowed := true }
def FnExactKindOfUptoSaid : Prop := fnExactKindOfUptoRow.holds Try.pinned (OpenSpec.upto fnExactKindOfSpec)

/-- 'laws.FnExactLeftOf', WHERE WHAT IT READS IS OF BULK AT MOST 1048576: true; the input reads as it did. -/
def fnExactLeftOfUptoRow : OpenClaim := { program := "ytobpbnbjdpdflaa", sum := "59eaba1820f04c4b8692950c3dbb91029f806a9a2998fbe17d92792c33361299", func := "loop.example/g00594/laws.FnExactLeftOf", spec := "fnExactLeftOf", apart := false, narrowed := true }
def FnExactLeftOfUptoSaid : Prop := fnExactLeftOfUptoRow.holds Try.pinned (OpenSpec.upto fnExactLeftOfSpec)

/-- 'laws.FnExactEndOf', WHERE WHAT IT READS IS OF BULK AT MOST 1048576: true; the input reads as it did. -/
def fnExactEndOfUptoRow : OpenClaim := { program := "ytobpbnbjdpdflaa", sum := "59eaba1820f04c4b8692950c3dbb91029f806a9a2998fbe17d92792c33361299", func := "loop.example/g00594/laws.FnExactEndOf", spec := "fnExactEndOf", apart := false, narrowed := true }
def FnExactEndOfUptoSaid : Prop := fnExactEndOfUptoRow.holds Try.pinned (OpenSpec.upto fnExactEndOfSpec)

/-- 'laws.FnExactSameClaim', WHERE WHAT IT READS IS OF BULK AT MOST 1048576: true; the input reads as it did. -/
def fnExactSameClaimUptoRow : OpenClaim := { program := "ytobpbnbjdpdflaa", sum := "59eaba1820f04c4b8692950c3dbb91029f806a9a2998fbe17d92792c33361299", func := "loop.example/g00594/laws.FnExactSameClaim", spec := "fnExactSameClaim", apart := false, narrowed := true }
def FnExactSameClaimUptoSaid : Prop := fnExactSameClaimUptoRow.holds Try.pinned (OpenSpec.upto fnExactSameClaimSpec)

/-- 'laws.FnExactIsFresh', WHERE WHAT IT READS IS OF BULK AT MOST 1048576: true; the input reads as it did. -/
def fnExactIsFreshUptoRow : OpenClaim := { program := "ytobpbnbjdpdflaa", sum := "59eaba1820f04c4b8692950c3dbb91029f806a9a2998fbe17d92792c33361299", func := "loop.example/g00594/laws.FnExactIsFresh", spec := "fnExactIsFresh", apart := false, narrowed := true }
def FnExactIsFreshUptoSaid : Prop := fnExactIsFreshUptoRow.holds Try.pinned (OpenSpec.upto fnExactIsFreshSpec)

/-- 'laws.FnExactEqualBytes', WHERE WHAT IT READS IS OF BULK AT MOST 1048576: true; the input reads as it did. -/
def fnExactEqualBytesUptoRow : OpenClaim := { program := "ytobpbnbjdpdflaa", sum := "59eaba1820f04c4b8692950c3dbb91029f806a9a2998fbe17d92792c33361299", func := "loop.example/g00594/laws.FnExactEqualBytes", spec := "fnExactEqualBytes", apart := false, narrowed := true }
def FnExactEqualBytesUptoSaid : Prop := fnExactEqualBytesUptoRow.holds Try.pinned (OpenSpec.upto fnExactEqualBytesSpec)

/-- 'laws.FnExactFactBefore', WHERE WHAT IT READS IS OF BULK AT MOST 1048576: true; the input reads as it did. -/
def fnExactFactBeforeUptoRow : OpenClaim := { program := "ytobpbnbjdpdflaa", sum := "59eaba1820f04c4b8692950c3dbb91029f806a9a2998fbe17d92792c33361299", func := "loop.example/g00594/laws.FnExactFactBefore", spec := "fnExactFactBefore", apart := false, narrowed := true }
def FnExactFactBeforeUptoSaid : Prop := fnExactFactBeforeUptoRow.holds Try.pinned (OpenSpec.upto fnExactFactBeforeSpec)

end Rows
end Go.Proofs.Ytobpbnbjdpdflaa
