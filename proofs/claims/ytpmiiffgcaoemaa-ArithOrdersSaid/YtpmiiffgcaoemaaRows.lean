/-
  No cell of these rows narrows 'for every input' (looked for: loops, veiled, ifaces, maps, wideKeys, modest, calm, conditions, laid).
  DERIVED. THE GIVEN ROWS OF THIS SEAT. 9 by the template 'for every input the law returns true; each argument reads behind the call as it read before'; 0 by the template 'total and deterministic' (their statements: YtpmiiffgcaoemaaTotals.lean).
  GIVEN WITH THE SEED: the statements are not yours to turn. If you find one false, say at which input.
  Laid BY PROGRAM, IN A SANDBOX (cutbox-rows.mjs): the forced cells as the released guide's own fill.sh prints them over the translation 16527a10e0b334f3… (all of the seat's roots in one cut). By AI agents, Wed Nov 11 2026. No macro, syntax, notation, axiom, sorry.
-/
import Derived.Test.YtpmiiffgcaoemaaChecked
import GoSem.Claim
import GoSem.ClaimJoined
import GoSem.ClaimMapViews
import Derived.JoinedTies
import Derived.KernelRfl
namespace Go.Proofs.Ytpmiiffgcaoemaa
/- THE CELL 'sum', in the pinned program and in every row, IS THE sha256 OF THE DUMP (.gsa) THAT YtpmiiffgcaoemaaProg.lean LOADS. Nothing in Lean hashes anything: it is a label: what it is worth is what the hold of that sum in a sandbox is worth. -/
noncomputable def Try.pinned : Pinned := { name := "ytpmiiffgcaoemaa", sum := "16527a10e0b334f30cb33464c3afb246498c10036795d647c7bd86c35e4f532a", checked := Try.checked }
namespace Rows
def none {H : Type} : Left H := { results := [], args := [] }

/-- 'quadrillelaw01.ArithExtends': WHATEVER THE INPUT: true; the input reads as it did. -/
def arithExtendsSpec : ChangeSpec := { name := "arithExtends", fn := fun _ => fun
  | [d1, d2] => { results := [.lit (.bool true)], args := [d1, d2] }
  | _ => none }
def arithExtendsRow : OpenClaim := { program := "ytpmiiffgcaoemaa", sum := "16527a10e0b334f30cb33464c3afb246498c10036795d647c7bd86c35e4f532a", func := "quadrille/quadrillelaw01.ArithExtends", spec := "arithExtends", unfollowed := true, recurses := true, apart := false }
def ArithExtendsSaid : Prop := arithExtendsRow.holds Try.pinned (OpenSpec.ofChange arithExtendsSpec)

/-- ITS FALSE NEIGHBOUR: 'it returns false'. Refute it at one input. -/
def arithExtendsWrong : ChangeSpec := { name := "arithExtends", fn := fun _ => fun
  | [d1, d2] => { results := [.lit (.bool false)], args := [d1, d2] }
  | _ => none }
def ArithExtendsWrongFalsely : Prop := arithExtendsRow.holds Try.pinned (OpenSpec.ofChange arithExtendsWrong)

/-- 'quadrillelaw01.ArithBytes': WHATEVER THE INPUT: true; the input reads as it did. -/
def arithBytesSpec : ChangeSpec := { name := "arithBytes", fn := fun _ => fun
  | [d] => { results := [.lit (.bool true)], args := [d] }
  | _ => none }
def arithBytesRow : OpenClaim := { program := "ytpmiiffgcaoemaa", sum := "16527a10e0b334f30cb33464c3afb246498c10036795d647c7bd86c35e4f532a", func := "quadrille/quadrillelaw01.ArithBytes", spec := "arithBytes", unfollowed := true, recurses := true, apart := false }
def ArithBytesSaid : Prop := arithBytesRow.holds Try.pinned (OpenSpec.ofChange arithBytesSpec)

/-- ITS FALSE NEIGHBOUR: 'it returns false'. Refute it at one input. -/
def arithBytesWrong : ChangeSpec := { name := "arithBytes", fn := fun _ => fun
  | [d] => { results := [.lit (.bool false)], args := [d] }
  | _ => none }
def ArithBytesWrongFalsely : Prop := arithBytesRow.holds Try.pinned (OpenSpec.ofChange arithBytesWrong)

/-- 'quadrillelaw01.ArithMoves': WHATEVER THE INPUT: true; the input reads as it did. -/
def arithMovesSpec : ChangeSpec := { name := "arithMoves", fn := fun _ => fun
  | [d1, d2] => { results := [.lit (.bool true)], args := [d1, d2] }
  | _ => none }
def arithMovesRow : OpenClaim := { program := "ytpmiiffgcaoemaa", sum := "16527a10e0b334f30cb33464c3afb246498c10036795d647c7bd86c35e4f532a", func := "quadrille/quadrillelaw01.ArithMoves", spec := "arithMoves", unfollowed := true, recurses := true, apart := false }
def ArithMovesSaid : Prop := arithMovesRow.holds Try.pinned (OpenSpec.ofChange arithMovesSpec)

/-- ITS FALSE NEIGHBOUR: 'it returns false'. Refute it at one input. -/
def arithMovesWrong : ChangeSpec := { name := "arithMoves", fn := fun _ => fun
  | [d1, d2] => { results := [.lit (.bool false)], args := [d1, d2] }
  | _ => none }
def ArithMovesWrongFalsely : Prop := arithMovesRow.holds Try.pinned (OpenSpec.ofChange arithMovesWrong)

/-- 'quadrillelaw01.ArithOrders': WHATEVER THE INPUT: true; the input reads as it did. -/
def arithOrdersSpec : ChangeSpec := { name := "arithOrders", fn := fun _ => fun
  | [d1, d2] => { results := [.lit (.bool true)], args := [d1, d2] }
  | _ => none }
def arithOrdersRow : OpenClaim := { program := "ytpmiiffgcaoemaa", sum := "16527a10e0b334f30cb33464c3afb246498c10036795d647c7bd86c35e4f532a", func := "quadrille/quadrillelaw01.ArithOrders", spec := "arithOrders", unfollowed := true, recurses := true, apart := false }
def ArithOrdersSaid : Prop := arithOrdersRow.holds Try.pinned (OpenSpec.ofChange arithOrdersSpec)

/-- ITS FALSE NEIGHBOUR: 'it returns false'. Refute it at one input. -/
def arithOrdersWrong : ChangeSpec := { name := "arithOrders", fn := fun _ => fun
  | [d1, d2] => { results := [.lit (.bool false)], args := [d1, d2] }
  | _ => none }
def ArithOrdersWrongFalsely : Prop := arithOrdersRow.holds Try.pinned (OpenSpec.ofChange arithOrdersWrong)

/-- 'quadrillelaw01.ArithSums': WHATEVER THE INPUT: true; the input reads as it did. -/
def arithSumsSpec : ChangeSpec := { name := "arithSums", fn := fun _ => fun
  | [d1, d2] => { results := [.lit (.bool true)], args := [d1, d2] }
  | _ => none }
def arithSumsRow : OpenClaim := { program := "ytpmiiffgcaoemaa", sum := "16527a10e0b334f30cb33464c3afb246498c10036795d647c7bd86c35e4f532a", func := "quadrille/quadrillelaw01.ArithSums", spec := "arithSums", unfollowed := true, recurses := true, apart := false }
def ArithSumsSaid : Prop := arithSumsRow.holds Try.pinned (OpenSpec.ofChange arithSumsSpec)

/-- ITS FALSE NEIGHBOUR: 'it returns false'. Refute it at one input. -/
def arithSumsWrong : ChangeSpec := { name := "arithSums", fn := fun _ => fun
  | [d1, d2] => { results := [.lit (.bool false)], args := [d1, d2] }
  | _ => none }
def ArithSumsWrongFalsely : Prop := arithSumsRow.holds Try.pinned (OpenSpec.ofChange arithSumsWrong)

/-- 'quadrillelaw01.ArithWide': WHATEVER THE INPUT: true; the input reads as it did. -/
def arithWideSpec : ChangeSpec := { name := "arithWide", fn := fun _ => fun
  | [d1, d2] => { results := [.lit (.bool true)], args := [d1, d2] }
  | _ => none }
def arithWideRow : OpenClaim := { program := "ytpmiiffgcaoemaa", sum := "16527a10e0b334f30cb33464c3afb246498c10036795d647c7bd86c35e4f532a", func := "quadrille/quadrillelaw01.ArithWide", spec := "arithWide", unfollowed := true, recurses := true, apart := false }
def ArithWideSaid : Prop := arithWideRow.holds Try.pinned (OpenSpec.ofChange arithWideSpec)

/-- ITS FALSE NEIGHBOUR: 'it returns false'. Refute it at one input. -/
def arithWideWrong : ChangeSpec := { name := "arithWide", fn := fun _ => fun
  | [d1, d2] => { results := [.lit (.bool false)], args := [d1, d2] }
  | _ => none }
def ArithWideWrongFalsely : Prop := arithWideRow.holds Try.pinned (OpenSpec.ofChange arithWideWrong)

/-- 'quadrillelaw01.ArithHalves': WHATEVER THE INPUT: true; the input reads as it did. -/
def arithHalvesSpec : ChangeSpec := { name := "arithHalves", fn := fun _ => fun
  | [d1, d2] => { results := [.lit (.bool true)], args := [d1, d2] }
  | _ => none }
def arithHalvesRow : OpenClaim := { program := "ytpmiiffgcaoemaa", sum := "16527a10e0b334f30cb33464c3afb246498c10036795d647c7bd86c35e4f532a", func := "quadrille/quadrillelaw01.ArithHalves", spec := "arithHalves", unfollowed := true, recurses := true, apart := false }
def ArithHalvesSaid : Prop := arithHalvesRow.holds Try.pinned (OpenSpec.ofChange arithHalvesSpec)

/-- ITS FALSE NEIGHBOUR: 'it returns false'. Refute it at one input. -/
def arithHalvesWrong : ChangeSpec := { name := "arithHalves", fn := fun _ => fun
  | [d1, d2] => { results := [.lit (.bool false)], args := [d1, d2] }
  | _ => none }
def ArithHalvesWrongFalsely : Prop := arithHalvesRow.holds Try.pinned (OpenSpec.ofChange arithHalvesWrong)

/-- 'quadrillelaw01.ArithQuotients': WHATEVER THE INPUT: true; the input reads as it did. -/
def arithQuotientsSpec : ChangeSpec := { name := "arithQuotients", fn := fun _ => fun
  | [d1, d2] => { results := [.lit (.bool true)], args := [d1, d2] }
  | _ => none }
def arithQuotientsRow : OpenClaim := { program := "ytpmiiffgcaoemaa", sum := "16527a10e0b334f30cb33464c3afb246498c10036795d647c7bd86c35e4f532a", func := "quadrille/quadrillelaw01.ArithQuotients", spec := "arithQuotients", unfollowed := true, recurses := true, apart := false }
def ArithQuotientsSaid : Prop := arithQuotientsRow.holds Try.pinned (OpenSpec.ofChange arithQuotientsSpec)

/-- ITS FALSE NEIGHBOUR: 'it returns false'. Refute it at one input. -/
def arithQuotientsWrong : ChangeSpec := { name := "arithQuotients", fn := fun _ => fun
  | [d1, d2] => { results := [.lit (.bool false)], args := [d1, d2] }
  | _ => none }
def ArithQuotientsWrongFalsely : Prop := arithQuotientsRow.holds Try.pinned (OpenSpec.ofChange arithQuotientsWrong)

/-- 'quadrillelaw01.ArithAgain': WHATEVER THE INPUT: true; the input reads as it did. -/
def arithAgainSpec : ChangeSpec := { name := "arithAgain", fn := fun _ => fun
  | [d1, d2] => { results := [.lit (.bool true)], args := [d1, d2] }
  | _ => none }
def arithAgainRow : OpenClaim := { program := "ytpmiiffgcaoemaa", sum := "16527a10e0b334f30cb33464c3afb246498c10036795d647c7bd86c35e4f532a", func := "quadrille/quadrillelaw01.ArithAgain", spec := "arithAgain", unfollowed := true, recurses := true, apart := false }
def ArithAgainSaid : Prop := arithAgainRow.holds Try.pinned (OpenSpec.ofChange arithAgainSpec)

/-- ITS FALSE NEIGHBOUR: 'it returns false'. Refute it at one input. -/
def arithAgainWrong : ChangeSpec := { name := "arithAgain", fn := fun _ => fun
  | [d1, d2] => { results := [.lit (.bool false)], args := [d1, d2] }
  | _ => none }
def ArithAgainWrongFalsely : Prop := arithAgainRow.holds Try.pinned (OpenSpec.ofChange arithAgainWrong)

/- THE SECOND FORM. 'bulk': how many values and letters a reading holds, each counted each time it is reached (what is shared counts as often as it is met; a slice's spare places count too). A statement '..UptoSaid' is the law's where the arguments, and the package variables that the reading takes, are together of bulk at most 1048576: NARROWER than '..Said'. Prove '..Said' where nothing that the law and all that it calls make is longer than what came in: it says more and counts as full. Else prove '..UptoSaid'. A law counts once. -/
mutual
def uptoBulk {H : Type} : DataW H → Nat
  | .lit (.string bytes) => bytes.length + 1
  | .lit _ => 1
  | .nil => 1
  | .ptr d => uptoBulk d + 1
  | .slice elems spare => uptoBulkAll elems + uptoBulkAll spare + 1
  | .agg parts => uptoBulkAll parts + 1
  | .iface _ d => uptoBulk d + 1
  | .map entries => uptoBulkEntries entries + 1
  | .held _ => 1
def uptoBulkAll {H : Type} : List (DataW H) → Nat
  | [] => 0
  | d :: r => uptoBulk d + uptoBulkAll r
def uptoBulkEntries {H : Type} : List (Lit × DataW H) → Nat
  | [] => 0
  | x :: r => uptoBulkEntry x + uptoBulkEntries r
def uptoBulkEntry {H : Type} : Lit × DataW H → Nat
  | (.string bytes, d) => bytes.length + uptoBulk d + 1
  | (_, d) => uptoBulk d + 1
 end
def uptoSmall : (H : Type) → List (DataW H) → Bool := fun _ ds => decide (uptoBulkAll ds ≤ 1048576)
def OpenSpec.upto (s : _root_.Go.ChangeSpec) : _root_.Go.OpenSpec := { _root_.Go.OpenSpec.ofChange s with cond := some uptoSmall }

/-- 'quadrillelaw01.ArithExtends', WHERE WHAT IT READS IS OF BULK AT MOST 1048576: true; the input reads as it did. -/
def arithExtendsUptoRow : OpenClaim := { program := "ytpmiiffgcaoemaa", sum := "16527a10e0b334f30cb33464c3afb246498c10036795d647c7bd86c35e4f532a", func := "quadrille/quadrillelaw01.ArithExtends", spec := "arithExtends", unfollowed := true, recurses := true, apart := false, narrowed := true }
def ArithExtendsUptoSaid : Prop := arithExtendsUptoRow.holds Try.pinned (OpenSpec.upto arithExtendsSpec)

/-- 'quadrillelaw01.ArithBytes', WHERE WHAT IT READS IS OF BULK AT MOST 1048576: true; the input reads as it did. -/
def arithBytesUptoRow : OpenClaim := { program := "ytpmiiffgcaoemaa", sum := "16527a10e0b334f30cb33464c3afb246498c10036795d647c7bd86c35e4f532a", func := "quadrille/quadrillelaw01.ArithBytes", spec := "arithBytes", unfollowed := true, recurses := true, apart := false, narrowed := true }
def ArithBytesUptoSaid : Prop := arithBytesUptoRow.holds Try.pinned (OpenSpec.upto arithBytesSpec)

/-- 'quadrillelaw01.ArithMoves', WHERE WHAT IT READS IS OF BULK AT MOST 1048576: true; the input reads as it did. -/
def arithMovesUptoRow : OpenClaim := { program := "ytpmiiffgcaoemaa", sum := "16527a10e0b334f30cb33464c3afb246498c10036795d647c7bd86c35e4f532a", func := "quadrille/quadrillelaw01.ArithMoves", spec := "arithMoves", unfollowed := true, recurses := true, apart := false, narrowed := true }
def ArithMovesUptoSaid : Prop := arithMovesUptoRow.holds Try.pinned (OpenSpec.upto arithMovesSpec)

/-- 'quadrillelaw01.ArithOrders', WHERE WHAT IT READS IS OF BULK AT MOST 1048576: true; the input reads as it did. -/
def arithOrdersUptoRow : OpenClaim := { program := "ytpmiiffgcaoemaa", sum := "16527a10e0b334f30cb33464c3afb246498c10036795d647c7bd86c35e4f532a", func := "quadrille/quadrillelaw01.ArithOrders", spec := "arithOrders", unfollowed := true, recurses := true, apart := false, narrowed := true }
def ArithOrdersUptoSaid : Prop := arithOrdersUptoRow.holds Try.pinned (OpenSpec.upto arithOrdersSpec)

/-- 'quadrillelaw01.ArithSums', WHERE WHAT IT READS IS OF BULK AT MOST 1048576: true; the input reads as it did. -/
def arithSumsUptoRow : OpenClaim := { program := "ytpmiiffgcaoemaa", sum := "16527a10e0b334f30cb33464c3afb246498c10036795d647c7bd86c35e4f532a", func := "quadrille/quadrillelaw01.ArithSums", spec := "arithSums", unfollowed := true, recurses := true, apart := false, narrowed := true }
def ArithSumsUptoSaid : Prop := arithSumsUptoRow.holds Try.pinned (OpenSpec.upto arithSumsSpec)

/-- 'quadrillelaw01.ArithWide', WHERE WHAT IT READS IS OF BULK AT MOST 1048576: true; the input reads as it did. -/
def arithWideUptoRow : OpenClaim := { program := "ytpmiiffgcaoemaa", sum := "16527a10e0b334f30cb33464c3afb246498c10036795d647c7bd86c35e4f532a", func := "quadrille/quadrillelaw01.ArithWide", spec := "arithWide", unfollowed := true, recurses := true, apart := false, narrowed := true }
def ArithWideUptoSaid : Prop := arithWideUptoRow.holds Try.pinned (OpenSpec.upto arithWideSpec)

/-- 'quadrillelaw01.ArithHalves', WHERE WHAT IT READS IS OF BULK AT MOST 1048576: true; the input reads as it did. -/
def arithHalvesUptoRow : OpenClaim := { program := "ytpmiiffgcaoemaa", sum := "16527a10e0b334f30cb33464c3afb246498c10036795d647c7bd86c35e4f532a", func := "quadrille/quadrillelaw01.ArithHalves", spec := "arithHalves", unfollowed := true, recurses := true, apart := false, narrowed := true }
def ArithHalvesUptoSaid : Prop := arithHalvesUptoRow.holds Try.pinned (OpenSpec.upto arithHalvesSpec)

/-- 'quadrillelaw01.ArithQuotients', WHERE WHAT IT READS IS OF BULK AT MOST 1048576: true; the input reads as it did. -/
def arithQuotientsUptoRow : OpenClaim := { program := "ytpmiiffgcaoemaa", sum := "16527a10e0b334f30cb33464c3afb246498c10036795d647c7bd86c35e4f532a", func := "quadrille/quadrillelaw01.ArithQuotients", spec := "arithQuotients", unfollowed := true, recurses := true, apart := false, narrowed := true }
def ArithQuotientsUptoSaid : Prop := arithQuotientsUptoRow.holds Try.pinned (OpenSpec.upto arithQuotientsSpec)

/-- 'quadrillelaw01.ArithAgain', WHERE WHAT IT READS IS OF BULK AT MOST 1048576: true; the input reads as it did. -/
def arithAgainUptoRow : OpenClaim := { program := "ytpmiiffgcaoemaa", sum := "16527a10e0b334f30cb33464c3afb246498c10036795d647c7bd86c35e4f532a", func := "quadrille/quadrillelaw01.ArithAgain", spec := "arithAgain", unfollowed := true, recurses := true, apart := false, narrowed := true }
def ArithAgainUptoSaid : Prop := arithAgainUptoRow.holds Try.pinned (OpenSpec.upto arithAgainSpec)

end Rows
end Go.Proofs.Ytpmiiffgcaoemaa
