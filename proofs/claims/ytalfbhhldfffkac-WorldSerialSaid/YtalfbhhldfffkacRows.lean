/-
  No cell of these rows narrows 'for every input' (looked for: loops, veiled, ifaces, maps, wideKeys, modest, calm, conditions, laid).
  DERIVED. THE GIVEN ROWS OF THIS SEAT. 8 by the template 'for every input the law returns true; each argument reads behind the call as it read before'; 0 by the template 'total and deterministic' (their statements: YtalfbhhldfffkacTotals.lean).
  GIVEN WITH THE SEED: the statements are not yours to turn. If you find one false, say at which input.
  Laid BY PROGRAM, IN A SANDBOX (cutbox-rows.mjs): the forced cells as the released guide's own fill.sh prints them over the translation 344183b82dac8702… (all of the seat's roots in one cut). By AI agents, Wed Nov 11 2026. No macro, syntax, notation, axiom, sorry.
-/
import Derived.Test.YtalfbhhldfffkacChecked
import GoSem.Claim
import GoSem.ClaimJoined
import GoSem.ClaimMapViews
import Derived.JoinedTies
import Derived.KernelRfl
namespace Go.Proofs.Ytalfbhhldfffkac
/- THE CELL 'sum', in the pinned program and in every row, IS THE sha256 OF THE DUMP (.gsa) THAT YtalfbhhldfffkacProg.lean LOADS. Nothing in Lean hashes anything: it is a label: what it is worth is what the hold of that sum in a sandbox is worth. -/
noncomputable def Try.pinned : Pinned := { name := "ytalfbhhldfffkac", sum := "344183b82dac87023a46b156b66876021c302fe361ed5fc9c6d89022f0ef6d85", checked := Try.checked }
namespace Rows
def none {H : Type} : Left H := { results := [], args := [] }

/-- 'postilionlaw.WorldOnce': WHATEVER THE INPUT: true; the input reads as it did. -/
def worldOnceSpec : ChangeSpec := { name := "worldOnce", fn := fun _ => fun
  | [d] => { results := [.lit (.bool true)], args := [d] }
  | _ => none }
def worldOnceRow : OpenClaim := { program := "ytalfbhhldfffkac", sum := "344183b82dac87023a46b156b66876021c302fe361ed5fc9c6d89022f0ef6d85", func := "postilion/postilionlaw.WorldOnce", spec := "worldOnce", inPlace := ["internal/abi.NoEscape", "internal/bytealg.MakeNoZero", "internal/bytealg.abigen_runtime_cmpstring", "slices.overlaps[postilion/files.file]"], unfollowed := true, recurses := true, apart := false }
def WorldOnceSaid : Prop := worldOnceRow.holds Try.pinned (OpenSpec.ofChange worldOnceSpec)

/-- ITS FALSE NEIGHBOUR: 'it returns false'. Refute it at one input. -/
def worldOnceWrong : ChangeSpec := { name := "worldOnce", fn := fun _ => fun
  | [d] => { results := [.lit (.bool false)], args := [d] }
  | _ => none }
def WorldOnceWrongFalsely : Prop := worldOnceRow.holds Try.pinned (OpenSpec.ofChange worldOnceWrong)

/-- 'postilionlaw.WorldSerial': WHATEVER THE INPUT: true; the input reads as it did. -/
def worldSerialSpec : ChangeSpec := { name := "worldSerial", fn := fun _ => fun
  | [d] => { results := [.lit (.bool true)], args := [d] }
  | _ => none }
def worldSerialRow : OpenClaim := { program := "ytalfbhhldfffkac", sum := "344183b82dac87023a46b156b66876021c302fe361ed5fc9c6d89022f0ef6d85", func := "postilion/postilionlaw.WorldSerial", spec := "worldSerial", inPlace := ["internal/abi.NoEscape", "internal/bytealg.MakeNoZero", "internal/bytealg.abigen_runtime_cmpstring", "slices.overlaps[postilion/files.file]"], unfollowed := true, recurses := true, apart := false }
def WorldSerialSaid : Prop := worldSerialRow.holds Try.pinned (OpenSpec.ofChange worldSerialSpec)

/-- ITS FALSE NEIGHBOUR: 'it returns false'. Refute it at one input. -/
def worldSerialWrong : ChangeSpec := { name := "worldSerial", fn := fun _ => fun
  | [d] => { results := [.lit (.bool false)], args := [d] }
  | _ => none }
def WorldSerialWrongFalsely : Prop := worldSerialRow.holds Try.pinned (OpenSpec.ofChange worldSerialWrong)

/-- 'postilionlaw.WorldStays': WHATEVER THE INPUT: true; the input reads as it did. -/
def worldStaysSpec : ChangeSpec := { name := "worldStays", fn := fun _ => fun
  | [d] => { results := [.lit (.bool true)], args := [d] }
  | _ => none }
def worldStaysRow : OpenClaim := { program := "ytalfbhhldfffkac", sum := "344183b82dac87023a46b156b66876021c302fe361ed5fc9c6d89022f0ef6d85", func := "postilion/postilionlaw.WorldStays", spec := "worldStays", inPlace := ["internal/abi.NoEscape", "internal/bytealg.MakeNoZero", "internal/bytealg.abigen_runtime_cmpstring", "slices.overlaps[postilion/files.file]"], unfollowed := true, recurses := true, apart := false }
def WorldStaysSaid : Prop := worldStaysRow.holds Try.pinned (OpenSpec.ofChange worldStaysSpec)

/-- ITS FALSE NEIGHBOUR: 'it returns false'. Refute it at one input. -/
def worldStaysWrong : ChangeSpec := { name := "worldStays", fn := fun _ => fun
  | [d] => { results := [.lit (.bool false)], args := [d] }
  | _ => none }
def WorldStaysWrongFalsely : Prop := worldStaysRow.holds Try.pinned (OpenSpec.ofChange worldStaysWrong)

/-- 'postilionlaw.WorldCalm': WHATEVER THE INPUT: true; the input reads as it did. -/
def worldCalmSpec : ChangeSpec := { name := "worldCalm", fn := fun _ => fun
  | [d] => { results := [.lit (.bool true)], args := [d] }
  | _ => none }
def worldCalmRow : OpenClaim := { program := "ytalfbhhldfffkac", sum := "344183b82dac87023a46b156b66876021c302fe361ed5fc9c6d89022f0ef6d85", func := "postilion/postilionlaw.WorldCalm", spec := "worldCalm", inPlace := ["internal/abi.NoEscape", "internal/bytealg.MakeNoZero", "internal/bytealg.abigen_runtime_cmpstring", "slices.overlaps[postilion/files.file]"], unfollowed := true, recurses := true, apart := false }
def WorldCalmSaid : Prop := worldCalmRow.holds Try.pinned (OpenSpec.ofChange worldCalmSpec)

/-- ITS FALSE NEIGHBOUR: 'it returns false'. Refute it at one input. -/
def worldCalmWrong : ChangeSpec := { name := "worldCalm", fn := fun _ => fun
  | [d] => { results := [.lit (.bool false)], args := [d] }
  | _ => none }
def WorldCalmWrongFalsely : Prop := worldCalmRow.holds Try.pinned (OpenSpec.ofChange worldCalmWrong)

/-- 'postilionlaw.WorldForgets': WHATEVER THE INPUT: true; the input reads as it did. -/
def worldForgetsSpec : ChangeSpec := { name := "worldForgets", fn := fun _ => fun
  | [d] => { results := [.lit (.bool true)], args := [d] }
  | _ => none }
def worldForgetsRow : OpenClaim := { program := "ytalfbhhldfffkac", sum := "344183b82dac87023a46b156b66876021c302fe361ed5fc9c6d89022f0ef6d85", func := "postilion/postilionlaw.WorldForgets", spec := "worldForgets", inPlace := ["internal/abi.NoEscape", "internal/bytealg.MakeNoZero", "internal/bytealg.abigen_runtime_cmpstring", "slices.overlaps[postilion/files.file]"], unfollowed := true, recurses := true, apart := false }
def WorldForgetsSaid : Prop := worldForgetsRow.holds Try.pinned (OpenSpec.ofChange worldForgetsSpec)

/-- ITS FALSE NEIGHBOUR: 'it returns false'. Refute it at one input. -/
def worldForgetsWrong : ChangeSpec := { name := "worldForgets", fn := fun _ => fun
  | [d] => { results := [.lit (.bool false)], args := [d] }
  | _ => none }
def WorldForgetsWrongFalsely : Prop := worldForgetsRow.holds Try.pinned (OpenSpec.ofChange worldForgetsWrong)

/-- 'postilionlaw.StoryDoes': WHATEVER THE INPUT: true; the input reads as it did. -/
def storyDoesSpec : ChangeSpec := { name := "storyDoes", fn := fun _ => fun
  | [d1, d2, d3, d4, d5] => { results := [.lit (.bool true)], args := [d1, d2, d3, d4, d5] }
  | _ => none }
def storyDoesRow : OpenClaim := { program := "ytalfbhhldfffkac", sum := "344183b82dac87023a46b156b66876021c302fe361ed5fc9c6d89022f0ef6d85", func := "postilion/postilionlaw.StoryDoes", spec := "storyDoes", inPlace := ["internal/abi.NoEscape", "internal/bytealg.MakeNoZero", "internal/bytealg.abigen_runtime_cmpstring", "slices.overlaps[postilion/files.file]"], unfollowed := true, recurses := true, apart := false }
def StoryDoesSaid : Prop := storyDoesRow.holds Try.pinned (OpenSpec.ofChange storyDoesSpec)

/-- ITS FALSE NEIGHBOUR: 'it returns false'. Refute it at one input. -/
def storyDoesWrong : ChangeSpec := { name := "storyDoes", fn := fun _ => fun
  | [d1, d2, d3, d4, d5] => { results := [.lit (.bool false)], args := [d1, d2, d3, d4, d5] }
  | _ => none }
def StoryDoesWrongFalsely : Prop := storyDoesRow.holds Try.pinned (OpenSpec.ofChange storyDoesWrong)

/-- 'postilionlaw.StoryTells': WHATEVER THE INPUT: true; the input reads as it did. -/
def storyTellsSpec : ChangeSpec := { name := "storyTells", fn := fun _ => fun
  | [d] => { results := [.lit (.bool true)], args := [d] }
  | _ => none }
def storyTellsRow : OpenClaim := { program := "ytalfbhhldfffkac", sum := "344183b82dac87023a46b156b66876021c302fe361ed5fc9c6d89022f0ef6d85", func := "postilion/postilionlaw.StoryTells", spec := "storyTells", inPlace := ["internal/abi.NoEscape", "internal/bytealg.MakeNoZero", "internal/bytealg.abigen_runtime_cmpstring", "slices.overlaps[postilion/files.file]"], unfollowed := true, recurses := true, apart := false }
def StoryTellsSaid : Prop := storyTellsRow.holds Try.pinned (OpenSpec.ofChange storyTellsSpec)

/-- ITS FALSE NEIGHBOUR: 'it returns false'. Refute it at one input. -/
def storyTellsWrong : ChangeSpec := { name := "storyTells", fn := fun _ => fun
  | [d] => { results := [.lit (.bool false)], args := [d] }
  | _ => none }
def StoryTellsWrongFalsely : Prop := storyTellsRow.holds Try.pinned (OpenSpec.ofChange storyTellsWrong)

/-- 'postilionlaw.StoryParts': WHATEVER THE INPUT: true; the input reads as it did. -/
def storyPartsSpec : ChangeSpec := { name := "storyParts", fn := fun _ => fun
  | [d1, d2] => { results := [.lit (.bool true)], args := [d1, d2] }
  | _ => none }
def storyPartsRow : OpenClaim := { program := "ytalfbhhldfffkac", sum := "344183b82dac87023a46b156b66876021c302fe361ed5fc9c6d89022f0ef6d85", func := "postilion/postilionlaw.StoryParts", spec := "storyParts", inPlace := ["internal/abi.NoEscape", "internal/bytealg.MakeNoZero", "internal/bytealg.abigen_runtime_cmpstring", "slices.overlaps[postilion/files.file]"], unfollowed := true, recurses := true, apart := false }
def StoryPartsSaid : Prop := storyPartsRow.holds Try.pinned (OpenSpec.ofChange storyPartsSpec)

/-- ITS FALSE NEIGHBOUR: 'it returns false'. Refute it at one input. -/
def storyPartsWrong : ChangeSpec := { name := "storyParts", fn := fun _ => fun
  | [d1, d2] => { results := [.lit (.bool false)], args := [d1, d2] }
  | _ => none }
def StoryPartsWrongFalsely : Prop := storyPartsRow.holds Try.pinned (OpenSpec.ofChange storyPartsWrong)

/- THE SECOND FORM. 'bulk': how many values and letters a reading holds, each counted each time it is reached (what is shared counts as often as it is met; a slice's spare places count too). A statement '..UptoSaid' is the law's where the arguments, and the package variables that the reading takes, are together of bulk at most 1048576: NARROWER than '..Said'. Prove '..Said' where nothing that the law and all that it calls make is longer than what came in: it says more and counts as full. Else prove '..UptoSaid'. A law counts once. -/
mutual
def uptoBulk {H : Type} : DataW H → Nat
  | .lit (.string bytes) => bytes.length + 1
  | .lit _ => 1
  | .nil => 1
  | .ptr d => uptoBulk d + 1
  | .slice elems spare => uptoBulkAll elems + uptoBulkAll spare + 1
  | .agg parts => uptoBulkAll parts + 1
  | .iface _ d => uptoBulk d + 1
  | .map entries => uptoBulkEntries entries + 1
  | .held _ => 1
def uptoBulkAll {H : Type} : List (DataW H) → Nat
  | [] => 0
  | d :: r => uptoBulk d + uptoBulkAll r
def uptoBulkEntries {H : Type} : List (Lit × DataW H) → Nat
  | [] => 0
  | x :: r => uptoBulkEntry x + uptoBulkEntries r
def uptoBulkEntry {H : Type} : Lit × DataW H → Nat
  | (.string bytes, d) => bytes.length + uptoBulk d + 1
  | (_, d) => uptoBulk d + 1
 end
def uptoSmall : (H : Type) → List (DataW H) → Bool := fun _ ds => decide (uptoBulkAll ds ≤ 1048576)
def OpenSpec.upto (s : _root_.Go.ChangeSpec) : _root_.Go.OpenSpec := { _root_.Go.OpenSpec.ofChange s with cond := some uptoSmall }

/-- 'postilionlaw.WorldOnce', WHERE WHAT IT READS IS OF BULK AT MOST 1048576: true; the input reads as it did. -/
def worldOnceUptoRow : OpenClaim := { program := "ytalfbhhldfffkac", sum := "344183b82dac87023a46b156b66876021c302fe361ed5fc9c6d89022f0ef6d85", func := "postilion/postilionlaw.WorldOnce", spec := "worldOnce", inPlace := ["internal/abi.NoEscape", "internal/bytealg.MakeNoZero", "internal/bytealg.abigen_runtime_cmpstring", "slices.overlaps[postilion/files.file]"], unfollowed := true, recurses := true, apart := false, narrowed := true }
def WorldOnceUptoSaid : Prop := worldOnceUptoRow.holds Try.pinned (OpenSpec.upto worldOnceSpec)

/-- 'postilionlaw.WorldSerial', WHERE WHAT IT READS IS OF BULK AT MOST 1048576: true; the input reads as it did. -/
def worldSerialUptoRow : OpenClaim := { program := "ytalfbhhldfffkac", sum := "344183b82dac87023a46b156b66876021c302fe361ed5fc9c6d89022f0ef6d85", func := "postilion/postilionlaw.WorldSerial", spec := "worldSerial", inPlace := ["internal/abi.NoEscape", "internal/bytealg.MakeNoZero", "internal/bytealg.abigen_runtime_cmpstring", "slices.overlaps[postilion/files.file]"], unfollowed := true, recurses := true, apart := false, narrowed := true }
def WorldSerialUptoSaid : Prop := worldSerialUptoRow.holds Try.pinned (OpenSpec.upto worldSerialSpec)

/-- 'postilionlaw.WorldStays', WHERE WHAT IT READS IS OF BULK AT MOST 1048576: true; the input reads as it did. -/
def worldStaysUptoRow : OpenClaim := { program := "ytalfbhhldfffkac", sum := "344183b82dac87023a46b156b66876021c302fe361ed5fc9c6d89022f0ef6d85", func := "postilion/postilionlaw.WorldStays", spec := "worldStays", inPlace := ["internal/abi.NoEscape", "internal/bytealg.MakeNoZero", "internal/bytealg.abigen_runtime_cmpstring", "slices.overlaps[postilion/files.file]"], unfollowed := true, recurses := true, apart := false, narrowed := true }
def WorldStaysUptoSaid : Prop := worldStaysUptoRow.holds Try.pinned (OpenSpec.upto worldStaysSpec)

/-- 'postilionlaw.WorldCalm', WHERE WHAT IT READS IS OF BULK AT MOST 1048576: true; the input reads as it did. -/
def worldCalmUptoRow : OpenClaim := { program := "ytalfbhhldfffkac", sum := "344183b82dac87023a46b156b66876021c302fe361ed5fc9c6d89022f0ef6d85", func := "postilion/postilionlaw.WorldCalm", spec := "worldCalm", inPlace := ["internal/abi.NoEscape", "internal/bytealg.MakeNoZero", "internal/bytealg.abigen_runtime_cmpstring", "slices.overlaps[postilion/files.file]"], unfollowed := true, recurses := true, apart := false, narrowed := true }
def WorldCalmUptoSaid : Prop := worldCalmUptoRow.holds Try.pinned (OpenSpec.upto worldCalmSpec)

/-- 'postilionlaw.WorldForgets', WHERE WHAT IT READS IS OF BULK AT MOST 1048576: true; the input reads as it did. -/
def worldForgetsUptoRow : OpenClaim := { program := "ytalfbhhldfffkac", sum := "344183b82dac87023a46b156b66876021c302fe361ed5fc9c6d89022f0ef6d85", func := "postilion/postilionlaw.WorldForgets", spec := "worldForgets", inPlace := ["internal/abi.NoEscape", "internal/bytealg.MakeNoZero", "internal/bytealg.abigen_runtime_cmpstring", "slices.overlaps[postilion/files.file]"], unfollowed := true, recurses := true, apart := false, narrowed := true }
def WorldForgetsUptoSaid : Prop := worldForgetsUptoRow.holds Try.pinned (OpenSpec.upto worldForgetsSpec)

/-- 'postilionlaw.StoryDoes', WHERE WHAT IT READS IS OF BULK AT MOST 1048576: true; the input reads as it did. -/
def storyDoesUptoRow : OpenClaim := { program := "ytalfbhhldfffkac", sum := "344183b82dac87023a46b156b66876021c302fe361ed5fc9c6d89022f0ef6d85", func := "postilion/postilionlaw.StoryDoes", spec := "storyDoes", inPlace := ["internal/abi.NoEscape", "internal/bytealg.MakeNoZero", "internal/bytealg.abigen_runtime_cmpstring", "slices.overlaps[postilion/files.file]"], unfollowed := true, recurses := true, apart := false, narrowed := true }
def StoryDoesUptoSaid : Prop := storyDoesUptoRow.holds Try.pinned (OpenSpec.upto storyDoesSpec)

/-- 'postilionlaw.StoryTells', WHERE WHAT IT READS IS OF BULK AT MOST 1048576: true; the input reads as it did. -/
def storyTellsUptoRow : OpenClaim := { program := "ytalfbhhldfffkac", sum := "344183b82dac87023a46b156b66876021c302fe361ed5fc9c6d89022f0ef6d85", func := "postilion/postilionlaw.StoryTells", spec := "storyTells", inPlace := ["internal/abi.NoEscape", "internal/bytealg.MakeNoZero", "internal/bytealg.abigen_runtime_cmpstring", "slices.overlaps[postilion/files.file]"], unfollowed := true, recurses := true, apart := false, narrowed := true }
def StoryTellsUptoSaid : Prop := storyTellsUptoRow.holds Try.pinned (OpenSpec.upto storyTellsSpec)

/-- 'postilionlaw.StoryParts', WHERE WHAT IT READS IS OF BULK AT MOST 1048576: true; the input reads as it did. -/
def storyPartsUptoRow : OpenClaim := { program := "ytalfbhhldfffkac", sum := "344183b82dac87023a46b156b66876021c302fe361ed5fc9c6d89022f0ef6d85", func := "postilion/postilionlaw.StoryParts", spec := "storyParts", inPlace := ["internal/abi.NoEscape", "internal/bytealg.MakeNoZero", "internal/bytealg.abigen_runtime_cmpstring", "slices.overlaps[postilion/files.file]"], unfollowed := true, recurses := true, apart := false, narrowed := true }
def StoryPartsUptoSaid : Prop := storyPartsUptoRow.holds Try.pinned (OpenSpec.upto storyPartsSpec)

end Rows
end Go.Proofs.Ytalfbhhldfffkac
