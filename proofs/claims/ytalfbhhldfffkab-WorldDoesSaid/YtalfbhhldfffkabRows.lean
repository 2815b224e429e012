/-
  No cell of these rows narrows 'for every input' (looked for: loops, veiled, ifaces, maps, wideKeys, modest, calm, conditions, laid).
  DERIVED. THE GIVEN ROWS OF THIS SEAT. 8 by the template 'for every input the law returns true; each argument reads behind the call as it read before'; 0 by the template 'total and deterministic' (their statements: YtalfbhhldfffkabTotals.lean).
  GIVEN WITH THE SEED: the statements are not yours to turn. If you find one false, say at which input.
  Laid BY PROGRAM, IN A SANDBOX (cutbox-rows.mjs): the forced cells as the released guide's own fill.sh prints them over the translation 0df1e24342d803a5… (all of the seat's roots in one cut). By AI agents, Wed Nov 11 2026. No macro, syntax, notation, axiom, sorry.
-/
import Derived.Test.YtalfbhhldfffkabChecked
import GoSem.Claim
import GoSem.ClaimJoined
import GoSem.ClaimMapViews
import Derived.JoinedTies
import Derived.KernelRfl
namespace Go.Proofs.Ytalfbhhldfffkab
/- THE CELL 'sum', in the pinned program and in every row, IS THE sha256 OF THE DUMP (.gsa) THAT YtalfbhhldfffkabProg.lean LOADS. Nothing in Lean hashes anything: it is a label: what it is worth is what the hold of that sum in a sandbox is worth. -/
noncomputable def Try.pinned : Pinned := { name := "ytalfbhhldfffkab", sum := "0df1e24342d803a59054b3c513c5f20d2c1514cddfbc4d0a1b40d9f8247bf8da", checked := Try.checked }
namespace Rows
def none {H : Type} : Left H := { results := [], args := [] }

/-- 'postilionlaw.FilesBack': WHATEVER THE INPUT: true; the input reads as it did. -/
def filesBackSpec : ChangeSpec := { name := "filesBack", fn := fun _ => fun
  | [d1, d2, d3, d4] => { results := [.lit (.bool true)], args := [d1, d2, d3, d4] }
  | _ => none }
def filesBackRow : OpenClaim := { program := "ytalfbhhldfffkab", sum := "0df1e24342d803a59054b3c513c5f20d2c1514cddfbc4d0a1b40d9f8247bf8da", func := "postilion/postilionlaw.FilesBack", spec := "filesBack", inPlace := ["internal/abi.NoEscape", "internal/bytealg.MakeNoZero", "internal/bytealg.abigen_runtime_cmpstring", "slices.overlaps[postilion/files.file]"], unfollowed := true, recurses := true, apart := false }
def FilesBackSaid : Prop := filesBackRow.holds Try.pinned (OpenSpec.ofChange filesBackSpec)

/-- ITS FALSE NEIGHBOUR: 'it returns false'. Refute it at one input. -/
def filesBackWrong : ChangeSpec := { name := "filesBack", fn := fun _ => fun
  | [d1, d2, d3, d4] => { results := [.lit (.bool false)], args := [d1, d2, d3, d4] }
  | _ => none }
def FilesBackWrongFalsely : Prop := filesBackRow.holds Try.pinned (OpenSpec.ofChange filesBackWrong)

/-- 'postilionlaw.FilesOrder': WHATEVER THE INPUT: true; the input reads as it did. -/
def filesOrderSpec : ChangeSpec := { name := "filesOrder", fn := fun _ => fun
  | [d] => { results := [.lit (.bool true)], args := [d] }
  | _ => none }
def filesOrderRow : OpenClaim := { program := "ytalfbhhldfffkab", sum := "0df1e24342d803a59054b3c513c5f20d2c1514cddfbc4d0a1b40d9f8247bf8da", func := "postilion/postilionlaw.FilesOrder", spec := "filesOrder", inPlace := ["internal/abi.NoEscape", "internal/bytealg.MakeNoZero", "internal/bytealg.abigen_runtime_cmpstring", "slices.overlaps[postilion/files.file]"], unfollowed := true, recurses := true, apart := false }
def FilesOrderSaid : Prop := filesOrderRow.holds Try.pinned (OpenSpec.ofChange filesOrderSpec)

/-- ITS FALSE NEIGHBOUR: 'it returns false'. Refute it at one input. -/
def filesOrderWrong : ChangeSpec := { name := "filesOrder", fn := fun _ => fun
  | [d] => { results := [.lit (.bool false)], args := [d] }
  | _ => none }
def FilesOrderWrongFalsely : Prop := filesOrderRow.holds Try.pinned (OpenSpec.ofChange filesOrderWrong)

/-- 'postilionlaw.StoreDoes': WHATEVER THE INPUT: true; the input reads as it did. -/
def storeDoesSpec : ChangeSpec := { name := "storeDoes", fn := fun _ => fun
  | [d1, d2, d3] => { results := [.lit (.bool true)], args := [d1, d2, d3] }
  | _ => none }
def storeDoesRow : OpenClaim := { program := "ytalfbhhldfffkab", sum := "0df1e24342d803a59054b3c513c5f20d2c1514cddfbc4d0a1b40d9f8247bf8da", func := "postilion/postilionlaw.StoreDoes", spec := "storeDoes", inPlace := ["internal/abi.NoEscape", "internal/bytealg.MakeNoZero", "internal/bytealg.abigen_runtime_cmpstring", "slices.overlaps[postilion/files.file]"], unfollowed := true, recurses := true, apart := false }
def StoreDoesSaid : Prop := storeDoesRow.holds Try.pinned (OpenSpec.ofChange storeDoesSpec)

/-- ITS FALSE NEIGHBOUR: 'it returns false'. Refute it at one input. -/
def storeDoesWrong : ChangeSpec := { name := "storeDoes", fn := fun _ => fun
  | [d1, d2, d3] => { results := [.lit (.bool false)], args := [d1, d2, d3] }
  | _ => none }
def StoreDoesWrongFalsely : Prop := storeDoesRow.holds Try.pinned (OpenSpec.ofChange storeDoesWrong)

/-- 'postilionlaw.StoreOnce': WHATEVER THE INPUT: true; the input reads as it did. -/
def storeOnceSpec : ChangeSpec := { name := "storeOnce", fn := fun _ => fun
  | [d1, d2, d3] => { results := [.lit (.bool true)], args := [d1, d2, d3] }
  | _ => none }
def storeOnceRow : OpenClaim := { program := "ytalfbhhldfffkab", sum := "0df1e24342d803a59054b3c513c5f20d2c1514cddfbc4d0a1b40d9f8247bf8da", func := "postilion/postilionlaw.StoreOnce", spec := "storeOnce", inPlace := ["internal/abi.NoEscape", "internal/bytealg.MakeNoZero", "internal/bytealg.abigen_runtime_cmpstring", "slices.overlaps[postilion/files.file]"], unfollowed := true, recurses := true, apart := false }
def StoreOnceSaid : Prop := storeOnceRow.holds Try.pinned (OpenSpec.ofChange storeOnceSpec)

/-- ITS FALSE NEIGHBOUR: 'it returns false'. Refute it at one input. -/
def storeOnceWrong : ChangeSpec := { name := "storeOnce", fn := fun _ => fun
  | [d1, d2, d3] => { results := [.lit (.bool false)], args := [d1, d2, d3] }
  | _ => none }
def StoreOnceWrongFalsely : Prop := storeOnceRow.holds Try.pinned (OpenSpec.ofChange storeOnceWrong)

/-- 'postilionlaw.StoreAgain': WHATEVER THE INPUT: true; the input reads as it did. -/
def storeAgainSpec : ChangeSpec := { name := "storeAgain", fn := fun _ => fun
  | [d] => { results := [.lit (.bool true)], args := [d] }
  | _ => none }
def storeAgainRow : OpenClaim := { program := "ytalfbhhldfffkab", sum := "0df1e24342d803a59054b3c513c5f20d2c1514cddfbc4d0a1b40d9f8247bf8da", func := "postilion/postilionlaw.StoreAgain", spec := "storeAgain", inPlace := ["internal/abi.NoEscape", "internal/bytealg.MakeNoZero", "internal/bytealg.abigen_runtime_cmpstring", "slices.overlaps[postilion/files.file]"], unfollowed := true, recurses := true, apart := false }
def StoreAgainSaid : Prop := storeAgainRow.holds Try.pinned (OpenSpec.ofChange storeAgainSpec)

/-- ITS FALSE NEIGHBOUR: 'it returns false'. Refute it at one input. -/
def storeAgainWrong : ChangeSpec := { name := "storeAgain", fn := fun _ => fun
  | [d] => { results := [.lit (.bool false)], args := [d] }
  | _ => none }
def StoreAgainWrongFalsely : Prop := storeAgainRow.holds Try.pinned (OpenSpec.ofChange storeAgainWrong)

/-- 'postilionlaw.StoreTears': WHATEVER THE INPUT: true; the input reads as it did. -/
def storeTearsSpec : ChangeSpec := { name := "storeTears", fn := fun _ => fun
  | [d1, d2] => { results := [.lit (.bool true)], args := [d1, d2] }
  | _ => none }
def storeTearsRow : OpenClaim := { program := "ytalfbhhldfffkab", sum := "0df1e24342d803a59054b3c513c5f20d2c1514cddfbc4d0a1b40d9f8247bf8da", func := "postilion/postilionlaw.StoreTears", spec := "storeTears", inPlace := ["internal/abi.NoEscape", "internal/bytealg.MakeNoZero", "internal/bytealg.abigen_runtime_cmpstring", "slices.overlaps[postilion/files.file]"], unfollowed := true, recurses := true, apart := false }
def StoreTearsSaid : Prop := storeTearsRow.holds Try.pinned (OpenSpec.ofChange storeTearsSpec)

/-- ITS FALSE NEIGHBOUR: 'it returns false'. Refute it at one input. -/
def storeTearsWrong : ChangeSpec := { name := "storeTears", fn := fun _ => fun
  | [d1, d2] => { results := [.lit (.bool false)], args := [d1, d2] }
  | _ => none }
def StoreTearsWrongFalsely : Prop := storeTearsRow.holds Try.pinned (OpenSpec.ofChange storeTearsWrong)

/-- 'postilionlaw.StoreRefuses': WHATEVER THE INPUT: true; the input reads as it did. -/
def storeRefusesSpec : ChangeSpec := { name := "storeRefuses", fn := fun _ => fun
  | [d1, d2] => { results := [.lit (.bool true)], args := [d1, d2] }
  | _ => none }
def storeRefusesRow : OpenClaim := { program := "ytalfbhhldfffkab", sum := "0df1e24342d803a59054b3c513c5f20d2c1514cddfbc4d0a1b40d9f8247bf8da", func := "postilion/postilionlaw.StoreRefuses", spec := "storeRefuses", inPlace := ["internal/abi.NoEscape", "internal/bytealg.MakeNoZero", "internal/bytealg.abigen_runtime_cmpstring", "slices.overlaps[postilion/files.file]"], unfollowed := true, recurses := true, apart := false }
def StoreRefusesSaid : Prop := storeRefusesRow.holds Try.pinned (OpenSpec.ofChange storeRefusesSpec)

/-- ITS FALSE NEIGHBOUR: 'it returns false'. Refute it at one input. -/
def storeRefusesWrong : ChangeSpec := { name := "storeRefuses", fn := fun _ => fun
  | [d1, d2] => { results := [.lit (.bool false)], args := [d1, d2] }
  | _ => none }
def StoreRefusesWrongFalsely : Prop := storeRefusesRow.holds Try.pinned (OpenSpec.ofChange storeRefusesWrong)

/-- 'postilionlaw.WorldDoes': WHATEVER THE INPUT: true; the input reads as it did. -/
def worldDoesSpec : ChangeSpec := { name := "worldDoes", fn := fun _ => fun
  | [d] => { results := [.lit (.bool true)], args := [d] }
  | _ => none }
def worldDoesRow : OpenClaim := { program := "ytalfbhhldfffkab", sum := "0df1e24342d803a59054b3c513c5f20d2c1514cddfbc4d0a1b40d9f8247bf8da", func := "postilion/postilionlaw.WorldDoes", spec := "worldDoes", inPlace := ["internal/abi.NoEscape", "internal/bytealg.MakeNoZero", "internal/bytealg.abigen_runtime_cmpstring", "slices.overlaps[postilion/files.file]"], unfollowed := true, recurses := true, apart := false }
def WorldDoesSaid : Prop := worldDoesRow.holds Try.pinned (OpenSpec.ofChange worldDoesSpec)

/-- ITS FALSE NEIGHBOUR: 'it returns false'. Refute it at one input. -/
def worldDoesWrong : ChangeSpec := { name := "worldDoes", fn := fun _ => fun
  | [d] => { results := [.lit (.bool false)], args := [d] }
  | _ => none }
def WorldDoesWrongFalsely : Prop := worldDoesRow.holds Try.pinned (OpenSpec.ofChange worldDoesWrong)

/- THE SECOND FORM. 'bulk': how many values and letters a reading holds, each counted each time it is reached (what is shared counts as often as it is met; a slice's spare places count too). A statement '..UptoSaid' is the law's where the arguments, and the package variables that the reading takes, are together of bulk at most 1048576: NARROWER than '..Said'. Prove '..Said' where nothing that the law and all that it calls make is longer than what came in: it says more and counts as full. Else prove '..UptoSaid'. A law counts once. -/
mutual
def uptoBulk {H : Type} : DataW H → Nat
  | .lit (.string bytes) => bytes.length + 1
  | .lit _ => 1
  | .nil => 1
  | .ptr d => uptoBulk d + 1
  | .slice elems spare => uptoBulkAll elems + uptoBulkAll spare + 1
  | .agg parts => uptoBulkAll parts + 1
  | .iface _ d => uptoBulk d + 1
  | .map entries => uptoBulkEntries entries + 1
  | .held _ => 1
def uptoBulkAll {H : Type} : List (DataW H) → Nat
  | [] => 0
  | d :: r => uptoBulk d + uptoBulkAll r
def uptoBulkEntries {H : Type} : List (Lit × DataW H) → Nat
  | [] => 0
  | x :: r => uptoBulkEntry x + uptoBulkEntries r
def uptoBulkEntry {H : Type} : Lit × DataW H → Nat
  | (.string bytes, d) => bytes.length + uptoBulk d + 1
  | (_, d) => uptoBulk d + 1
 end
def uptoSmall : (H : Type) → List (DataW H) → Bool := fun _ ds => decide (uptoBulkAll ds ≤ 1048576)
def OpenSpec.upto (s : _root_.Go.ChangeSpec) : _root_.Go.OpenSpec := { _root_.Go.OpenSpec.ofChange s with cond := some uptoSmall }

/-- 'postilionlaw.FilesBack', WHERE WHAT IT READS IS OF BULK AT MOST 1048576: true; the input reads as it did. -/
def filesBackUptoRow : OpenClaim := { program := "ytalfbhhldfffkab", sum := "0df1e24342d803a59054b3c513c5f20d2c1514cddfbc4d0a1b40d9f8247bf8da", func := "postilion/postilionlaw.FilesBack", spec := "filesBack", inPlace := ["internal/abi.NoEscape", "internal/bytealg.MakeNoZero", "internal/bytealg.abigen_runtime_cmpstring", "slices.overlaps[postilion/files.file]"], unfollowed := true, recurses := true, apart := false, narrowed := true }
def FilesBackUptoSaid : Prop := filesBackUptoRow.holds Try.pinned (OpenSpec.upto filesBackSpec)

/-- 'postilionlaw.FilesOrder', WHERE WHAT IT READS IS OF BULK AT MOST 1048576: true; the input reads as it did. -/
def filesOrderUptoRow : OpenClaim := { program := "ytalfbhhldfffkab", sum := "0df1e24342d803a59054b3c513c5f20d2c1514cddfbc4d0a1b40d9f8247bf8da", func := "postilion/postilionlaw.FilesOrder", spec := "filesOrder", inPlace := ["internal/abi.NoEscape", "internal/bytealg.MakeNoZero", "internal/bytealg.abigen_runtime_cmpstring", "slices.overlaps[postilion/files.file]"], unfollowed := true, recurses := true, apart := false, narrowed := true }
def FilesOrderUptoSaid : Prop := filesOrderUptoRow.holds Try.pinned (OpenSpec.upto filesOrderSpec)

/-- 'postilionlaw.StoreDoes', WHERE WHAT IT READS IS OF BULK AT MOST 1048576: true; the input reads as it did. -/
def storeDoesUptoRow : OpenClaim := { program := "ytalfbhhldfffkab", sum := "0df1e24342d803a59054b3c513c5f20d2c1514cddfbc4d0a1b40d9f8247bf8da", func := "postilion/postilionlaw.StoreDoes", spec := "storeDoes", inPlace := ["internal/abi.NoEscape", "internal/bytealg.MakeNoZero", "internal/bytealg.abigen_runtime_cmpstring", "slices.overlaps[postilion/files.file]"], unfollowed := true, recurses := true, apart := false, narrowed := true }
def StoreDoesUptoSaid : Prop := storeDoesUptoRow.holds Try.pinned (OpenSpec.upto storeDoesSpec)

/-- 'postilionlaw.StoreOnce', WHERE WHAT IT READS IS OF BULK AT MOST 1048576: true; the input reads as it did. -/
def storeOnceUptoRow : OpenClaim := { program := "ytalfbhhldfffkab", sum := "0df1e24342d803a59054b3c513c5f20d2c1514cddfbc4d0a1b40d9f8247bf8da", func := "postilion/postilionlaw.StoreOnce", spec := "storeOnce", inPlace := ["internal/abi.NoEscape", "internal/bytealg.MakeNoZero", "internal/bytealg.abigen_runtime_cmpstring", "slices.overlaps[postilion/files.file]"], unfollowed := true, recurses := true, apart := false, narrowed := true }
def StoreOnceUptoSaid : Prop := storeOnceUptoRow.holds Try.pinned (OpenSpec.upto storeOnceSpec)

/-- 'postilionlaw.StoreAgain', WHERE WHAT IT READS IS OF BULK AT MOST 1048576: true; the input reads as it did. -/
def storeAgainUptoRow : OpenClaim := { program := "ytalfbhhldfffkab", sum := "0df1e24342d803a59054b3c513c5f20d2c1514cddfbc4d0a1b40d9f8247bf8da", func := "postilion/postilionlaw.StoreAgain", spec := "storeAgain", inPlace := ["internal/abi.NoEscape", "internal/bytealg.MakeNoZero", "internal/bytealg.abigen_runtime_cmpstring", "slices.overlaps[postilion/files.file]"], unfollowed := true, recurses := true, apart := false, narrowed := true }
def StoreAgainUptoSaid : Prop := storeAgainUptoRow.holds Try.pinned (OpenSpec.upto storeAgainSpec)

/-- 'postilionlaw.StoreTears', WHERE WHAT IT READS IS OF BULK AT MOST 1048576: true; the input reads as it did. -/
def storeTearsUptoRow : OpenClaim := { program := "ytalfbhhldfffkab", sum := "0df1e24342d803a59054b3c513c5f20d2c1514cddfbc4d0a1b40d9f8247bf8da", func := "postilion/postilionlaw.StoreTears", spec := "storeTears", inPlace := ["internal/abi.NoEscape", "internal/bytealg.MakeNoZero", "internal/bytealg.abigen_runtime_cmpstring", "slices.overlaps[postilion/files.file]"], unfollowed := true, recurses := true, apart := false, narrowed := true }
def StoreTearsUptoSaid : Prop := storeTearsUptoRow.holds Try.pinned (OpenSpec.upto storeTearsSpec)

/-- 'postilionlaw.StoreRefuses', WHERE WHAT IT READS IS OF BULK AT MOST 1048576: true; the input reads as it did. -/
def storeRefusesUptoRow : OpenClaim := { program := "ytalfbhhldfffkab", sum := "0df1e24342d803a59054b3c513c5f20d2c1514cddfbc4d0a1b40d9f8247bf8da", func := "postilion/postilionlaw.StoreRefuses", spec := "storeRefuses", inPlace := ["internal/abi.NoEscape", "internal/bytealg.MakeNoZero", "internal/bytealg.abigen_runtime_cmpstring", "slices.overlaps[postilion/files.file]"], unfollowed := true, recurses := true, apart := false, narrowed := true }
def StoreRefusesUptoSaid : Prop := storeRefusesUptoRow.holds Try.pinned (OpenSpec.upto storeRefusesSpec)

/-- 'postilionlaw.WorldDoes', WHERE WHAT IT READS IS OF BULK AT MOST 1048576: true; the input reads as it did. -/
def worldDoesUptoRow : OpenClaim := { program := "ytalfbhhldfffkab", sum := "0df1e24342d803a59054b3c513c5f20d2c1514cddfbc4d0a1b40d9f8247bf8da", func := "postilion/postilionlaw.WorldDoes", spec := "worldDoes", inPlace := ["internal/abi.NoEscape", "internal/bytealg.MakeNoZero", "internal/bytealg.abigen_runtime_cmpstring", "slices.overlaps[postilion/files.file]"], unfollowed := true, recurses := true, apart := false, narrowed := true }
def WorldDoesUptoSaid : Prop := worldDoesUptoRow.holds Try.pinned (OpenSpec.upto worldDoesSpec)

end Rows
end Go.Proofs.Ytalfbhhldfffkab
