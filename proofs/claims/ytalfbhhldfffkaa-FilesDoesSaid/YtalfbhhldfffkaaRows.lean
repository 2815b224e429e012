/-
  No cell of these rows narrows 'for every input' (looked for: loops, veiled, ifaces, maps, wideKeys, modest, calm, conditions, laid).
  DERIVED. THE GIVEN ROWS OF THIS SEAT. 11 by the template 'for every input the law returns true; each argument reads behind the call as it read before'; 0 by the template 'total and deterministic' (their statements: YtalfbhhldfffkaaTotals.lean).
  GIVEN WITH THE SEED: the statements are not yours to turn. If you find one false, say at which input.
  Laid BY PROGRAM, IN A SANDBOX (cutbox-rows.mjs): the forced cells as the released guide's own fill.sh prints them over the translation b608a8a343e95c2d… (all of the seat's roots in one cut). By AI agents, Wed Nov 11 2026. No macro, syntax, notation, axiom, sorry.
-/
import Derived.Test.YtalfbhhldfffkaaChecked
import GoSem.Claim
import GoSem.ClaimJoined
import GoSem.ClaimMapViews
import Derived.JoinedTies
import Derived.KernelRfl
namespace Go.Proofs.Ytalfbhhldfffkaa
/- THE CELL 'sum', in the pinned program and in every row, IS THE sha256 OF THE DUMP (.gsa) THAT YtalfbhhldfffkaaProg.lean LOADS. Nothing in Lean hashes anything: it is a label: what it is worth is what the hold of that sum in a sandbox is worth. -/
noncomputable def Try.pinned : Pinned := { name := "ytalfbhhldfffkaa", sum := "b608a8a343e95c2d7645e1d71714d02015940e35f53880ab341eae7f97cea051", checked := Try.checked }
namespace Rows
def none {H : Type} : Left H := { results := [], args := [] }

/-- 'postilionlaw.PostDoes': WHATEVER THE INPUT: true; the input reads as it did. -/
def postDoesSpec : ChangeSpec := { name := "postDoes", fn := fun _ => fun
  | [d] => { results := [.lit (.bool true)], args := [d] }
  | _ => none }
def postDoesRow : OpenClaim := { program := "ytalfbhhldfffkaa", sum := "b608a8a343e95c2d7645e1d71714d02015940e35f53880ab341eae7f97cea051", func := "postilion/postilionlaw.PostDoes", spec := "postDoes", apart := false }
def PostDoesSaid : Prop := postDoesRow.holds Try.pinned (OpenSpec.ofChange postDoesSpec)

/-- ITS FALSE NEIGHBOUR: 'it returns false'. Refute it at one input. -/
def postDoesWrong : ChangeSpec := { name := "postDoes", fn := fun _ => fun
  | [d] => { results := [.lit (.bool false)], args := [d] }
  | _ => none }
def PostDoesWrongFalsely : Prop := postDoesRow.holds Try.pinned (OpenSpec.ofChange postDoesWrong)

/-- 'postilionlaw.PostKeeps': WHATEVER THE INPUT: true; the input reads as it did. -/
def postKeepsSpec : ChangeSpec := { name := "postKeeps", fn := fun _ => fun
  | [d] => { results := [.lit (.bool true)], args := [d] }
  | _ => none }
def postKeepsRow : OpenClaim := { program := "ytalfbhhldfffkaa", sum := "b608a8a343e95c2d7645e1d71714d02015940e35f53880ab341eae7f97cea051", func := "postilion/postilionlaw.PostKeeps", spec := "postKeeps", apart := false }
def PostKeepsSaid : Prop := postKeepsRow.holds Try.pinned (OpenSpec.ofChange postKeepsSpec)

/-- ITS FALSE NEIGHBOUR: 'it returns false'. Refute it at one input. -/
def postKeepsWrong : ChangeSpec := { name := "postKeeps", fn := fun _ => fun
  | [d] => { results := [.lit (.bool false)], args := [d] }
  | _ => none }
def PostKeepsWrongFalsely : Prop := postKeepsRow.holds Try.pinned (OpenSpec.ofChange postKeepsWrong)

/-- 'postilionlaw.PostOrder': WHATEVER THE INPUT: true; the input reads as it did. -/
def postOrderSpec : ChangeSpec := { name := "postOrder", fn := fun _ => fun
  | [d1, d2] => { results := [.lit (.bool true)], args := [d1, d2] }
  | _ => none }
def postOrderRow : OpenClaim := { program := "ytalfbhhldfffkaa", sum := "b608a8a343e95c2d7645e1d71714d02015940e35f53880ab341eae7f97cea051", func := "postilion/postilionlaw.PostOrder", spec := "postOrder", apart := false }
def PostOrderSaid : Prop := postOrderRow.holds Try.pinned (OpenSpec.ofChange postOrderSpec)

/-- ITS FALSE NEIGHBOUR: 'it returns false'. Refute it at one input. -/
def postOrderWrong : ChangeSpec := { name := "postOrder", fn := fun _ => fun
  | [d1, d2] => { results := [.lit (.bool false)], args := [d1, d2] }
  | _ => none }
def PostOrderWrongFalsely : Prop := postOrderRow.holds Try.pinned (OpenSpec.ofChange postOrderWrong)

/-- 'postilionlaw.ClientDoes': WHATEVER THE INPUT: true; the input reads as it did. -/
def clientDoesSpec : ChangeSpec := { name := "clientDoes", fn := fun _ => fun
  | [d1, d2] => { results := [.lit (.bool true)], args := [d1, d2] }
  | _ => none }
def clientDoesRow : OpenClaim := { program := "ytalfbhhldfffkaa", sum := "b608a8a343e95c2d7645e1d71714d02015940e35f53880ab341eae7f97cea051", func := "postilion/postilionlaw.ClientDoes", spec := "clientDoes", apart := false }
def ClientDoesSaid : Prop := clientDoesRow.holds Try.pinned (OpenSpec.ofChange clientDoesSpec)

/-- ITS FALSE NEIGHBOUR: 'it returns false'. Refute it at one input. -/
def clientDoesWrong : ChangeSpec := { name := "clientDoes", fn := fun _ => fun
  | [d1, d2] => { results := [.lit (.bool false)], args := [d1, d2] }
  | _ => none }
def ClientDoesWrongFalsely : Prop := clientDoesRow.holds Try.pinned (OpenSpec.ofChange clientDoesWrong)

/-- 'postilionlaw.ClientOne': WHATEVER THE INPUT: true; the input reads as it did. -/
def clientOneSpec : ChangeSpec := { name := "clientOne", fn := fun _ => fun
  | [d1, d2] => { results := [.lit (.bool true)], args := [d1, d2] }
  | _ => none }
def clientOneRow : OpenClaim := { program := "ytalfbhhldfffkaa", sum := "b608a8a343e95c2d7645e1d71714d02015940e35f53880ab341eae7f97cea051", func := "postilion/postilionlaw.ClientOne", spec := "clientOne", apart := false }
def ClientOneSaid : Prop := clientOneRow.holds Try.pinned (OpenSpec.ofChange clientOneSpec)

/-- ITS FALSE NEIGHBOUR: 'it returns false'. Refute it at one input. -/
def clientOneWrong : ChangeSpec := { name := "clientOne", fn := fun _ => fun
  | [d1, d2] => { results := [.lit (.bool false)], args := [d1, d2] }
  | _ => none }
def ClientOneWrongFalsely : Prop := clientOneRow.holds Try.pinned (OpenSpec.ofChange clientOneWrong)

/-- 'postilionlaw.ClientAgain': WHATEVER THE INPUT: true; the input reads as it did. -/
def clientAgainSpec : ChangeSpec := { name := "clientAgain", fn := fun _ => fun
  | [d1, d2, d3, d4] => { results := [.lit (.bool true)], args := [d1, d2, d3, d4] }
  | _ => none }
def clientAgainRow : OpenClaim := { program := "ytalfbhhldfffkaa", sum := "b608a8a343e95c2d7645e1d71714d02015940e35f53880ab341eae7f97cea051", func := "postilion/postilionlaw.ClientAgain", spec := "clientAgain", apart := false }
def ClientAgainSaid : Prop := clientAgainRow.holds Try.pinned (OpenSpec.ofChange clientAgainSpec)

/-- ITS FALSE NEIGHBOUR: 'it returns false'. Refute it at one input. -/
def clientAgainWrong : ChangeSpec := { name := "clientAgain", fn := fun _ => fun
  | [d1, d2, d3, d4] => { results := [.lit (.bool false)], args := [d1, d2, d3, d4] }
  | _ => none }
def ClientAgainWrongFalsely : Prop := clientAgainRow.holds Try.pinned (OpenSpec.ofChange clientAgainWrong)

/-- 'postilionlaw.CodecDoes': WHATEVER THE INPUT: true; the input reads as it did. -/
def codecDoesSpec : ChangeSpec := { name := "codecDoes", fn := fun _ => fun
  | [d1, d2] => { results := [.lit (.bool true)], args := [d1, d2] }
  | _ => none }
def codecDoesRow : OpenClaim := { program := "ytalfbhhldfffkaa", sum := "b608a8a343e95c2d7645e1d71714d02015940e35f53880ab341eae7f97cea051", func := "postilion/postilionlaw.CodecDoes", spec := "codecDoes", apart := false }
def CodecDoesSaid : Prop := codecDoesRow.holds Try.pinned (OpenSpec.ofChange codecDoesSpec)

/-- ITS FALSE NEIGHBOUR: 'it returns false'. Refute it at one input. -/
def codecDoesWrong : ChangeSpec := { name := "codecDoes", fn := fun _ => fun
  | [d1, d2] => { results := [.lit (.bool false)], args := [d1, d2] }
  | _ => none }
def CodecDoesWrongFalsely : Prop := codecDoesRow.holds Try.pinned (OpenSpec.ofChange codecDoesWrong)

/-- 'postilionlaw.CodecBack': WHATEVER THE INPUT: true; the input reads as it did. -/
def codecBackSpec : ChangeSpec := { name := "codecBack", fn := fun _ => fun
  | [d1, d2, d3] => { results := [.lit (.bool true)], args := [d1, d2, d3] }
  | _ => none }
def codecBackRow : OpenClaim := { program := "ytalfbhhldfffkaa", sum := "b608a8a343e95c2d7645e1d71714d02015940e35f53880ab341eae7f97cea051", func := "postilion/postilionlaw.CodecBack", spec := "codecBack", apart := false }
def CodecBackSaid : Prop := codecBackRow.holds Try.pinned (OpenSpec.ofChange codecBackSpec)

/-- ITS FALSE NEIGHBOUR: 'it returns false'. Refute it at one input. -/
def codecBackWrong : ChangeSpec := { name := "codecBack", fn := fun _ => fun
  | [d1, d2, d3] => { results := [.lit (.bool false)], args := [d1, d2, d3] }
  | _ => none }
def CodecBackWrongFalsely : Prop := codecBackRow.holds Try.pinned (OpenSpec.ofChange codecBackWrong)

/-- 'postilionlaw.CodecCut': WHATEVER THE INPUT: true; the input reads as it did. -/
def codecCutSpec : ChangeSpec := { name := "codecCut", fn := fun _ => fun
  | [d1, d2] => { results := [.lit (.bool true)], args := [d1, d2] }
  | _ => none }
def codecCutRow : OpenClaim := { program := "ytalfbhhldfffkaa", sum := "b608a8a343e95c2d7645e1d71714d02015940e35f53880ab341eae7f97cea051", func := "postilion/postilionlaw.CodecCut", spec := "codecCut", apart := false }
def CodecCutSaid : Prop := codecCutRow.holds Try.pinned (OpenSpec.ofChange codecCutSpec)

/-- ITS FALSE NEIGHBOUR: 'it returns false'. Refute it at one input. -/
def codecCutWrong : ChangeSpec := { name := "codecCut", fn := fun _ => fun
  | [d1, d2] => { results := [.lit (.bool false)], args := [d1, d2] }
  | _ => none }
def CodecCutWrongFalsely : Prop := codecCutRow.holds Try.pinned (OpenSpec.ofChange codecCutWrong)

/-- 'postilionlaw.FilesDoes': WHATEVER THE INPUT: true; the input reads as it did. -/
def filesDoesSpec : ChangeSpec := { name := "filesDoes", fn := fun _ => fun
  | [d1, d2, d3] => { results := [.lit (.bool true)], args := [d1, d2, d3] }
  | _ => none }
def filesDoesRow : OpenClaim := { program := "ytalfbhhldfffkaa", sum := "b608a8a343e95c2d7645e1d71714d02015940e35f53880ab341eae7f97cea051", func := "postilion/postilionlaw.FilesDoes", spec := "filesDoes", inPlace := ["internal/abi.NoEscape", "internal/bytealg.MakeNoZero", "internal/bytealg.abigen_runtime_cmpstring", "slices.overlaps[postilion/files.file]"], unfollowed := true, recurses := true, apart := false }
def FilesDoesSaid : Prop := filesDoesRow.holds Try.pinned (OpenSpec.ofChange filesDoesSpec)

/-- ITS FALSE NEIGHBOUR: 'it returns false'. Refute it at one input. -/
def filesDoesWrong : ChangeSpec := { name := "filesDoes", fn := fun _ => fun
  | [d1, d2, d3] => { results := [.lit (.bool false)], args := [d1, d2, d3] }
  | _ => none }
def FilesDoesWrongFalsely : Prop := filesDoesRow.holds Try.pinned (OpenSpec.ofChange filesDoesWrong)

/-- 'postilionlaw.FilesApart': WHATEVER THE INPUT: true; the input reads as it did. -/
def filesApartSpec : ChangeSpec := { name := "filesApart", fn := fun _ => fun
  | [d1, d2] => { results := [.lit (.bool true)], args := [d1, d2] }
  | _ => none }
def filesApartRow : OpenClaim := { program := "ytalfbhhldfffkaa", sum := "b608a8a343e95c2d7645e1d71714d02015940e35f53880ab341eae7f97cea051", func := "postilion/postilionlaw.FilesApart", spec := "filesApart", inPlace := ["internal/abi.NoEscape", "internal/bytealg.MakeNoZero", "internal/bytealg.abigen_runtime_cmpstring", "slices.overlaps[postilion/files.file]"], unfollowed := true, recurses := true, apart := false }
def FilesApartSaid : Prop := filesApartRow.holds Try.pinned (OpenSpec.ofChange filesApartSpec)

/-- ITS FALSE NEIGHBOUR: 'it returns false'. Refute it at one input. -/
def filesApartWrong : ChangeSpec := { name := "filesApart", fn := fun _ => fun
  | [d1, d2] => { results := [.lit (.bool false)], args := [d1, d2] }
  | _ => none }
def FilesApartWrongFalsely : Prop := filesApartRow.holds Try.pinned (OpenSpec.ofChange filesApartWrong)

/- THE SECOND FORM. 'bulk': how many values and letters a reading holds, each counted each time it is reached (what is shared counts as often as it is met; a slice's spare places count too). A statement '..UptoSaid' is the law's where the arguments, and the package variables that the reading takes, are together of bulk at most 1048576: NARROWER than '..Said'. Prove '..Said' where nothing that the law and all that it calls make is longer than what came in: it says more and counts as full. Else prove '..UptoSaid'. A law counts once. -/
mutual
def uptoBulk {H : Type} : DataW H → Nat
  | .lit (.string bytes) => bytes.length + 1
  | .lit _ => 1
  | .nil => 1
  | .ptr d => uptoBulk d + 1
  | .slice elems spare => uptoBulkAll elems + uptoBulkAll spare + 1
  | .agg parts => uptoBulkAll parts + 1
  | .iface _ d => uptoBulk d + 1
  | .map entries => uptoBulkEntries entries + 1
  | .held _ => 1
def uptoBulkAll {H : Type} : List (DataW H) → Nat
  | [] => 0
  | d :: r => uptoBulk d + uptoBulkAll r
def uptoBulkEntries {H : Type} : List (Lit × DataW H) → Nat
  | [] => 0
  | x :: r => uptoBulkEntry x + uptoBulkEntries r
def uptoBulkEntry {H : Type} : Lit × DataW H → Nat
  | (.string bytes, d) => bytes.length + uptoBulk d + 1
  | (_, d) => uptoBulk d + 1
 end
def uptoSmall : (H : Type) → List (DataW H) → Bool := fun _ ds => decide (uptoBulkAll ds ≤ 1048576)
def OpenSpec.upto (s : _root_.Go.ChangeSpec) : _root_.Go.OpenSpec := { _root_.Go.OpenSpec.ofChange s with cond := some uptoSmall }

/-- 'postilionlaw.PostDoes', WHERE WHAT IT READS IS OF BULK AT MOST 1048576: true; the input reads as it did. -/
def postDoesUptoRow : OpenClaim := { program := "ytalfbhhldfffkaa", sum := "b608a8a343e95c2d7645e1d71714d02015940e35f53880ab341eae7f97cea051", func := "postilion/postilionlaw.PostDoes", spec := "postDoes", apart := false, narrowed := true }
def PostDoesUptoSaid : Prop := postDoesUptoRow.holds Try.pinned (OpenSpec.upto postDoesSpec)

/-- 'postilionlaw.PostKeeps', WHERE WHAT IT READS IS OF BULK AT MOST 1048576: true; the input reads as it did. -/
def postKeepsUptoRow : OpenClaim := { program := "ytalfbhhldfffkaa", sum := "b608a8a343e95c2d7645e1d71714d02015940e35f53880ab341eae7f97cea051", func := "postilion/postilionlaw.PostKeeps", spec := "postKeeps", apart := false, narrowed := true }
def PostKeepsUptoSaid : Prop := postKeepsUptoRow.holds Try.pinned (OpenSpec.upto postKeepsSpec)

/-- 'postilionlaw.PostOrder', WHERE WHAT IT READS IS OF BULK AT MOST 1048576: true; the input reads as it did. -/
def postOrderUptoRow : OpenClaim := { program := "ytalfbhhldfffkaa", sum := "b608a8a343e95c2d7645e1d71714d02015940e35f53880ab341eae7f97cea051", func := "postilion/postilionlaw.PostOrder", spec := "postOrder", apart := false, narrowed := true }
def PostOrderUptoSaid : Prop := postOrderUptoRow.holds Try.pinned (OpenSpec.upto postOrderSpec)

/-- 'postilionlaw.ClientDoes', WHERE WHAT IT READS IS OF BULK AT MOST 1048576: true; the input reads as it did. -/
def clientDoesUptoRow : OpenClaim := { program := "ytalfbhhldfffkaa", sum := "b608a8a343e95c2d7645e1d71714d02015940e35f53880ab341eae7f97cea051", func := "postilion/postilionlaw.ClientDoes", spec := "clientDoes", apart := false, narrowed := true }
def ClientDoesUptoSaid : Prop := clientDoesUptoRow.holds Try.pinned (OpenSpec.upto clientDoesSpec)

/-- 'postilionlaw.ClientOne', WHERE WHAT IT READS IS OF BULK AT MOST 1048576: true; the input reads as it did. -/
def clientOneUptoRow : OpenClaim := { program := "ytalfbhhldfffkaa", sum := "b608a8a343e95c2d7645e1d71714d02015940e35f53880ab341eae7f97cea051", func := "postilion/postilionlaw.ClientOne", spec := "clientOne", apart := false, narrowed := true }
def ClientOneUptoSaid : Prop := clientOneUptoRow.holds Try.pinned (OpenSpec.upto clientOneSpec)

/-- 'postilionlaw.ClientAgain', WHERE WHAT IT READS IS OF BULK AT MOST 1048576: true; the input reads as it did. -/
def clientAgainUptoRow : OpenClaim := { program := "ytalfbhhldfffkaa", sum := "b608a8a343e95c2d7645e1d71714d02015940e35f53880ab341eae7f97cea051", func := "postilion/postilionlaw.ClientAgain", spec := "clientAgain", apart := false, narrowed := true }
def ClientAgainUptoSaid : Prop := clientAgainUptoRow.holds Try.pinned (OpenSpec.upto clientAgainSpec)

/-- 'postilionlaw.CodecDoes', WHERE WHAT IT READS IS OF BULK AT MOST 1048576: true; the input reads as it did. -/
def codecDoesUptoRow : OpenClaim := { program := "ytalfbhhldfffkaa", sum := "b608a8a343e95c2d7645e1d71714d02015940e35f53880ab341eae7f97cea051", func := "postilion/postilionlaw.CodecDoes", spec := "codecDoes", apart := false, narrowed := true }
def CodecDoesUptoSaid : Prop := codecDoesUptoRow.holds Try.pinned (OpenSpec.upto codecDoesSpec)

/-- 'postilionlaw.CodecBack', WHERE WHAT IT READS IS OF BULK AT MOST 1048576: true; the input reads as it did. -/
def codecBackUptoRow : OpenClaim := { program := "ytalfbhhldfffkaa", sum := "b608a8a343e95c2d7645e1d71714d02015940e35f53880ab341eae7f97cea051", func := "postilion/postilionlaw.CodecBack", spec := "codecBack", apart := false, narrowed := true }
def CodecBackUptoSaid : Prop := codecBackUptoRow.holds Try.pinned (OpenSpec.upto codecBackSpec)

/-- 'postilionlaw.CodecCut', WHERE WHAT IT READS IS OF BULK AT MOST 1048576: true; the input reads as it did. -/
def codecCutUptoRow : OpenClaim := { program := "ytalfbhhldfffkaa", sum := "b608a8a343e95c2d7645e1d71714d02015940e35f53880ab341eae7f97cea051", func := "postilion/postilionlaw.CodecCut", spec := "codecCut", apart := false, narrowed := true }
def CodecCutUptoSaid : Prop := codecCutUptoRow.holds Try.pinned (OpenSpec.upto codecCutSpec)

/-- 'postilionlaw.FilesDoes', WHERE WHAT IT READS IS OF BULK AT MOST 1048576: true; the input reads as it did. -/
def filesDoesUptoRow : OpenClaim := { program := "ytalfbhhldfffkaa", sum := "b608a8a343e95c2d7645e1d71714d02015940e35f53880ab341eae7f97cea051", func := "postilion/postilionlaw.FilesDoes", spec := "filesDoes", inPlace := ["internal/abi.NoEscape", "internal/bytealg.MakeNoZero", "internal/bytealg.abigen_runtime_cmpstring", "slices.overlaps[postilion/files.file]"], unfollowed := true, recurses := true, apart := false, narrowed := true }
def FilesDoesUptoSaid : Prop := filesDoesUptoRow.holds Try.pinned (OpenSpec.upto filesDoesSpec)

/-- 'postilionlaw.FilesApart', WHERE WHAT IT READS IS OF BULK AT MOST 1048576: true; the input reads as it did. -/
def filesApartUptoRow : OpenClaim := { program := "ytalfbhhldfffkaa", sum := "b608a8a343e95c2d7645e1d71714d02015940e35f53880ab341eae7f97cea051", func := "postilion/postilionlaw.FilesApart", spec := "filesApart", inPlace := ["internal/abi.NoEscape", "internal/bytealg.MakeNoZero", "internal/bytealg.abigen_runtime_cmpstring", "slices.overlaps[postilion/files.file]"], unfollowed := true, recurses := true, apart := false, narrowed := true }
def FilesApartUptoSaid : Prop := filesApartUptoRow.holds Try.pinned (OpenSpec.upto filesApartSpec)

end Rows
end Go.Proofs.Ytalfbhhldfffkaa
