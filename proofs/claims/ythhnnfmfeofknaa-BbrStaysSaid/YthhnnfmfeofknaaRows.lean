/-
  No cell of these rows narrows 'for every input' (looked for: loops, veiled, ifaces, maps, wideKeys, modest, calm, conditions, laid).
  DERIVED. THE GIVEN ROWS OF THIS SEAT. 12 by the template 'for every input the law returns true; each argument reads behind the call as it read before'; 0 by the template 'total and deterministic' (their statements: YthhnnfmfeofknaaTotals.lean).
  GIVEN WITH THE SEED: the statements are not yours to turn. If you find one false, say at which input.
  Laid BY PROGRAM, IN A SANDBOX (cutbox-rows.mjs): the forced cells as the released guide's own fill.sh prints them over the translation 04d1b1e2cc60aea0… (all of the seat's roots in one cut). By AI agents, Wed Nov 11 2026. No macro, syntax, notation, axiom, sorry.
-/
import Derived.Test.YthhnnfmfeofknaaChecked
import GoSem.Claim
import GoSem.ClaimJoined
import GoSem.ClaimMapViews
import Derived.JoinedTies
import Derived.KernelRfl
namespace Go.Proofs.Ythhnnfmfeofknaa
/- THE CELL 'sum', in the pinned program and in every row, IS THE sha256 OF THE DUMP (.gsa) THAT YthhnnfmfeofknaaProg.lean LOADS. Nothing in Lean hashes anything: it is a label: what it is worth is what the hold of that sum in a sandbox is worth. -/
noncomputable def Try.pinned : Pinned := { name := "ythhnnfmfeofknaa", sum := "04d1b1e2cc60aea03aef852f4fd083701ca7d9d84eb424f73f788342bcf55034", checked := Try.checked }
namespace Rows
def none {H : Type} : Left H := { results := [], args := [] }

/-- 'tidewaylaw06.SpanOrder': WHATEVER THE INPUT: true; the input reads as it did. -/
def spanOrderSpec : ChangeSpec := { name := "spanOrder", fn := fun _ => fun
  | [d1, d2, d3] => { results := [.lit (.bool true)], args := [d1, d2, d3] }
  | _ => none }
def spanOrderRow : OpenClaim := { program := "ythhnnfmfeofknaa", sum := "04d1b1e2cc60aea03aef852f4fd083701ca7d9d84eb424f73f788342bcf55034", func := "tideway/tidewaylaw06.SpanOrder", spec := "spanOrder", unfollowed := true, recurses := true, apart := false }
def SpanOrderSaid : Prop := spanOrderRow.holds Try.pinned (OpenSpec.ofChange spanOrderSpec)

/-- ITS FALSE NEIGHBOUR: 'it returns false'. Refute it at one input. -/
def spanOrderWrong : ChangeSpec := { name := "spanOrder", fn := fun _ => fun
  | [d1, d2, d3] => { results := [.lit (.bool false)], args := [d1, d2, d3] }
  | _ => none }
def SpanOrderWrongFalsely : Prop := spanOrderRow.holds Try.pinned (OpenSpec.ofChange spanOrderWrong)

/-- 'tidewaylaw06.SpanChanges': WHATEVER THE INPUT: true; the input reads as it did. -/
def spanChangesSpec : ChangeSpec := { name := "spanChanges", fn := fun _ => fun
  | [d1, d2] => { results := [.lit (.bool true)], args := [d1, d2] }
  | _ => none }
def spanChangesRow : OpenClaim := { program := "ythhnnfmfeofknaa", sum := "04d1b1e2cc60aea03aef852f4fd083701ca7d9d84eb424f73f788342bcf55034", func := "tideway/tidewaylaw06.SpanChanges", spec := "spanChanges", unfollowed := true, recurses := true, apart := false }
def SpanChangesSaid : Prop := spanChangesRow.holds Try.pinned (OpenSpec.ofChange spanChangesSpec)

/-- ITS FALSE NEIGHBOUR: 'it returns false'. Refute it at one input. -/
def spanChangesWrong : ChangeSpec := { name := "spanChanges", fn := fun _ => fun
  | [d1, d2] => { results := [.lit (.bool false)], args := [d1, d2] }
  | _ => none }
def SpanChangesWrongFalsely : Prop := spanChangesRow.holds Try.pinned (OpenSpec.ofChange spanChangesWrong)

/-- 'tidewaylaw16.CubicGrows': WHATEVER THE INPUT: true; the input reads as it did. -/
def cubicGrowsSpec : ChangeSpec := { name := "cubicGrows", fn := fun _ => fun
  | [d1, d2, d3, d4, d5] => { results := [.lit (.bool true)], args := [d1, d2, d3, d4, d5] }
  | _ => none }
def cubicGrowsRow : OpenClaim := { program := "ythhnnfmfeofknaa", sum := "04d1b1e2cc60aea03aef852f4fd083701ca7d9d84eb424f73f788342bcf55034", func := "tideway/tidewaylaw16.CubicGrows", spec := "cubicGrows", unfollowed := true, recurses := true, named := ["math/bits.divideError", "math/bits.overflowError"], apart := false }
def CubicGrowsSaid : Prop := cubicGrowsRow.holds Try.pinned (OpenSpec.ofChange cubicGrowsSpec)

/-- ITS FALSE NEIGHBOUR: 'it returns false'. Refute it at one input. -/
def cubicGrowsWrong : ChangeSpec := { name := "cubicGrows", fn := fun _ => fun
  | [d1, d2, d3, d4, d5] => { results := [.lit (.bool false)], args := [d1, d2, d3, d4, d5] }
  | _ => none }
def CubicGrowsWrongFalsely : Prop := cubicGrowsRow.holds Try.pinned (OpenSpec.ofChange cubicGrowsWrong)

/-- 'tidewaylaw16.CubicRises': WHATEVER THE INPUT: true; the input reads as it did. -/
def cubicRisesSpec : ChangeSpec := { name := "cubicRises", fn := fun _ => fun
  | [d1, d2, d3, d4] => { results := [.lit (.bool true)], args := [d1, d2, d3, d4] }
  | _ => none }
def cubicRisesRow : OpenClaim := { program := "ythhnnfmfeofknaa", sum := "04d1b1e2cc60aea03aef852f4fd083701ca7d9d84eb424f73f788342bcf55034", func := "tideway/tidewaylaw16.CubicRises", spec := "cubicRises", unfollowed := true, recurses := true, named := ["math/bits.divideError", "math/bits.overflowError"], apart := false }
def CubicRisesSaid : Prop := cubicRisesRow.holds Try.pinned (OpenSpec.ofChange cubicRisesSpec)

/-- ITS FALSE NEIGHBOUR: 'it returns false'. Refute it at one input. -/
def cubicRisesWrong : ChangeSpec := { name := "cubicRises", fn := fun _ => fun
  | [d1, d2, d3, d4] => { results := [.lit (.bool false)], args := [d1, d2, d3, d4] }
  | _ => none }
def CubicRisesWrongFalsely : Prop := cubicRisesRow.holds Try.pinned (OpenSpec.ofChange cubicRisesWrong)

/-- 'tidewaylaw16.CubicCurve': WHATEVER THE INPUT: true; the input reads as it did. -/
def cubicCurveSpec : ChangeSpec := { name := "cubicCurve", fn := fun _ => fun
  | [d1, d2, d3] => { results := [.lit (.bool true)], args := [d1, d2, d3] }
  | _ => none }
def cubicCurveRow : OpenClaim := { program := "ythhnnfmfeofknaa", sum := "04d1b1e2cc60aea03aef852f4fd083701ca7d9d84eb424f73f788342bcf55034", func := "tideway/tidewaylaw16.CubicCurve", spec := "cubicCurve", unfollowed := true, recurses := true, named := ["math/bits.divideError", "math/bits.overflowError"], apart := false }
def CubicCurveSaid : Prop := cubicCurveRow.holds Try.pinned (OpenSpec.ofChange cubicCurveSpec)

/-- ITS FALSE NEIGHBOUR: 'it returns false'. Refute it at one input. -/
def cubicCurveWrong : ChangeSpec := { name := "cubicCurve", fn := fun _ => fun
  | [d1, d2, d3] => { results := [.lit (.bool false)], args := [d1, d2, d3] }
  | _ => none }
def CubicCurveWrongFalsely : Prop := cubicCurveRow.holds Try.pinned (OpenSpec.ofChange cubicCurveWrong)

/-- 'tidewaylaw16.CubicBack': WHATEVER THE INPUT: true; the input reads as it did. -/
def cubicBackSpec : ChangeSpec := { name := "cubicBack", fn := fun _ => fun
  | [d] => { results := [.lit (.bool true)], args := [d] }
  | _ => none }
def cubicBackRow : OpenClaim := { program := "ythhnnfmfeofknaa", sum := "04d1b1e2cc60aea03aef852f4fd083701ca7d9d84eb424f73f788342bcf55034", func := "tideway/tidewaylaw16.CubicBack", spec := "cubicBack", unfollowed := true, recurses := true, named := ["math/bits.divideError", "math/bits.overflowError"], apart := false }
def CubicBackSaid : Prop := cubicBackRow.holds Try.pinned (OpenSpec.ofChange cubicBackSpec)

/-- ITS FALSE NEIGHBOUR: 'it returns false'. Refute it at one input. -/
def cubicBackWrong : ChangeSpec := { name := "cubicBack", fn := fun _ => fun
  | [d] => { results := [.lit (.bool false)], args := [d] }
  | _ => none }
def CubicBackWrongFalsely : Prop := cubicBackRow.holds Try.pinned (OpenSpec.ofChange cubicBackWrong)

/-- 'tidewaylaw16.CubicFalls': WHATEVER THE INPUT: true; the input reads as it did. -/
def cubicFallsSpec : ChangeSpec := { name := "cubicFalls", fn := fun _ => fun
  | [d1, d2, d3] => { results := [.lit (.bool true)], args := [d1, d2, d3] }
  | _ => none }
def cubicFallsRow : OpenClaim := { program := "ythhnnfmfeofknaa", sum := "04d1b1e2cc60aea03aef852f4fd083701ca7d9d84eb424f73f788342bcf55034", func := "tideway/tidewaylaw16.CubicFalls", spec := "cubicFalls", unfollowed := true, recurses := true, named := ["math/bits.divideError", "math/bits.overflowError"], apart := false }
def CubicFallsSaid : Prop := cubicFallsRow.holds Try.pinned (OpenSpec.ofChange cubicFallsSpec)

/-- ITS FALSE NEIGHBOUR: 'it returns false'. Refute it at one input. -/
def cubicFallsWrong : ChangeSpec := { name := "cubicFalls", fn := fun _ => fun
  | [d1, d2, d3] => { results := [.lit (.bool false)], args := [d1, d2, d3] }
  | _ => none }
def CubicFallsWrongFalsely : Prop := cubicFallsRow.holds Try.pinned (OpenSpec.ofChange cubicFallsWrong)

/-- 'tidewaylaw19.CcBegins': WHATEVER THE INPUT: true; the input reads as it did. -/
def ccBeginsSpec : ChangeSpec := { name := "ccBegins", fn := fun _ => fun
  | [d1, d2, d3] => { results := [.lit (.bool true)], args := [d1, d2, d3] }
  | _ => none }
def ccBeginsRow : OpenClaim := { program := "ythhnnfmfeofknaa", sum := "04d1b1e2cc60aea03aef852f4fd083701ca7d9d84eb424f73f788342bcf55034", func := "tideway/tidewaylaw19.CcBegins", spec := "ccBegins", named := ["math/bits.divideError", "math/bits.overflowError"], apart := false }
def CcBeginsSaid : Prop := ccBeginsRow.holds Try.pinned (OpenSpec.ofChange ccBeginsSpec)

/-- ITS FALSE NEIGHBOUR: 'it returns false'. Refute it at one input. -/
def ccBeginsWrong : ChangeSpec := { name := "ccBegins", fn := fun _ => fun
  | [d1, d2, d3] => { results := [.lit (.bool false)], args := [d1, d2, d3] }
  | _ => none }
def CcBeginsWrongFalsely : Prop := ccBeginsRow.holds Try.pinned (OpenSpec.ofChange ccBeginsWrong)

/-- 'tidewaylaw19.CcRestLess': WHATEVER THE INPUT: true; the input reads as it did. -/
def ccRestLessSpec : ChangeSpec := { name := "ccRestLess", fn := fun _ => fun
  | [d1, d2, d3, d4] => { results := [.lit (.bool true)], args := [d1, d2, d3, d4] }
  | _ => none }
def ccRestLessRow : OpenClaim := { program := "ythhnnfmfeofknaa", sum := "04d1b1e2cc60aea03aef852f4fd083701ca7d9d84eb424f73f788342bcf55034", func := "tideway/tidewaylaw19.CcRestLess", spec := "ccRestLess", named := ["math/bits.divideError", "math/bits.overflowError"], apart := false }
def CcRestLessSaid : Prop := ccRestLessRow.holds Try.pinned (OpenSpec.ofChange ccRestLessSpec)

/-- ITS FALSE NEIGHBOUR: 'it returns false'. Refute it at one input. -/
def ccRestLessWrong : ChangeSpec := { name := "ccRestLess", fn := fun _ => fun
  | [d1, d2, d3, d4] => { results := [.lit (.bool false)], args := [d1, d2, d3, d4] }
  | _ => none }
def CcRestLessWrongFalsely : Prop := ccRestLessRow.holds Try.pinned (OpenSpec.ofChange ccRestLessWrong)

/-- 'tidewaylaw19.CcRests': WHATEVER THE INPUT: true; the input reads as it did. -/
def ccRestsSpec : ChangeSpec := { name := "ccRests", fn := fun _ => fun
  | [d1, d2, d3, d4] => { results := [.lit (.bool true)], args := [d1, d2, d3, d4] }
  | _ => none }
def ccRestsRow : OpenClaim := { program := "ythhnnfmfeofknaa", sum := "04d1b1e2cc60aea03aef852f4fd083701ca7d9d84eb424f73f788342bcf55034", func := "tideway/tidewaylaw19.CcRests", spec := "ccRests", named := ["math/bits.divideError", "math/bits.overflowError"], apart := false }
def CcRestsSaid : Prop := ccRestsRow.holds Try.pinned (OpenSpec.ofChange ccRestsSpec)

/-- ITS FALSE NEIGHBOUR: 'it returns false'. Refute it at one input. -/
def ccRestsWrong : ChangeSpec := { name := "ccRests", fn := fun _ => fun
  | [d1, d2, d3, d4] => { results := [.lit (.bool false)], args := [d1, d2, d3, d4] }
  | _ => none }
def CcRestsWrongFalsely : Prop := ccRestsRow.holds Try.pinned (OpenSpec.ofChange ccRestsWrong)

/-- 'tidewaylaw18.BbrFalls': WHATEVER THE INPUT: true; the input reads as it did. -/
def bbrFallsSpec : ChangeSpec := { name := "bbrFalls", fn := fun _ => fun
  | [d1, d2, d3] => { results := [.lit (.bool true)], args := [d1, d2, d3] }
  | _ => none }
def bbrFallsRow : OpenClaim := { program := "ythhnnfmfeofknaa", sum := "04d1b1e2cc60aea03aef852f4fd083701ca7d9d84eb424f73f788342bcf55034", func := "tideway/tidewaylaw18.BbrFalls", spec := "bbrFalls", named := ["math/bits.divideError", "math/bits.overflowError"], apart := false }
def BbrFallsSaid : Prop := bbrFallsRow.holds Try.pinned (OpenSpec.ofChange bbrFallsSpec)

/-- ITS FALSE NEIGHBOUR: 'it returns false'. Refute it at one input. -/
def bbrFallsWrong : ChangeSpec := { name := "bbrFalls", fn := fun _ => fun
  | [d1, d2, d3] => { results := [.lit (.bool false)], args := [d1, d2, d3] }
  | _ => none }
def BbrFallsWrongFalsely : Prop := bbrFallsRow.holds Try.pinned (OpenSpec.ofChange bbrFallsWrong)

/-- 'tidewaylaw18.BbrStays': WHATEVER THE INPUT: true; the input reads as it did. -/
def bbrStaysSpec : ChangeSpec := { name := "bbrStays", fn := fun _ => fun
  | [d1, d2, d3] => { results := [.lit (.bool true)], args := [d1, d2, d3] }
  | _ => none }
def bbrStaysRow : OpenClaim := { program := "ythhnnfmfeofknaa", sum := "04d1b1e2cc60aea03aef852f4fd083701ca7d9d84eb424f73f788342bcf55034", func := "tideway/tidewaylaw18.BbrStays", spec := "bbrStays", named := ["math/bits.divideError", "math/bits.overflowError"], apart := false }
def BbrStaysSaid : Prop := bbrStaysRow.holds Try.pinned (OpenSpec.ofChange bbrStaysSpec)

/-- ITS FALSE NEIGHBOUR: 'it returns false'. Refute it at one input. -/
def bbrStaysWrong : ChangeSpec := { name := "bbrStays", fn := fun _ => fun
  | [d1, d2, d3] => { results := [.lit (.bool false)], args := [d1, d2, d3] }
  | _ => none }
def BbrStaysWrongFalsely : Prop := bbrStaysRow.holds Try.pinned (OpenSpec.ofChange bbrStaysWrong)

/- THE SECOND FORM. 'bulk': how many values and letters a reading holds, each counted each time it is reached (what is shared counts as often as it is met; a slice's spare places count too). A statement '..UptoSaid' is the law's where the arguments, and the package variables that the reading takes, are together of bulk at most 1048576: NARROWER than '..Said'. Prove '..Said' where nothing that the law and all that it calls make is longer than what came in: it says more and counts as full. Else prove '..UptoSaid'. A law counts once. -/
mutual
def uptoBulk {H : Type} : DataW H → Nat
  | .lit (.string bytes) => bytes.length + 1
  | .lit _ => 1
  | .nil => 1
  | .ptr d => uptoBulk d + 1
  | .slice elems spare => uptoBulkAll elems + uptoBulkAll spare + 1
  | .agg parts => uptoBulkAll parts + 1
  | .iface _ d => uptoBulk d + 1
  | .map entries => uptoBulkEntries entries + 1
  | .held _ => 1
def uptoBulkAll {H : Type} : List (DataW H) → Nat
  | [] => 0
  | d :: r => uptoBulk d + uptoBulkAll r
def uptoBulkEntries {H : Type} : List (Lit × DataW H) → Nat
  | [] => 0
  | x :: r => uptoBulkEntry x + uptoBulkEntries r
def uptoBulkEntry {H : Type} : Lit × DataW H → Nat
  | (.string bytes, d) => bytes.length + uptoBulk d + 1
  | (_, d) => uptoBulk d + 1
 end
def uptoSmall : (H : Type) → List (DataW H) → Bool := fun _ ds => decide (uptoBulkAll ds ≤ 1048576)
def OpenSpec.upto (s : _root_.Go.ChangeSpec) : _root_.Go.OpenSpec := { _root_.Go.OpenSpec.ofChange s with cond := some uptoSmall }

/-- 'tidewaylaw06.SpanOrder', WHERE WHAT IT READS IS OF BULK AT MOST 1048576: true; the input reads as it did. -/
def spanOrderUptoRow : OpenClaim := { program := "ythhnnfmfeofknaa", sum := "04d1b1e2cc60aea03aef852f4fd083701ca7d9d84eb424f73f788342bcf55034", func := "tideway/tidewaylaw06.SpanOrder", spec := "spanOrder", unfollowed := true, recurses := true, apart := false, narrowed := true }
def SpanOrderUptoSaid : Prop := spanOrderUptoRow.holds Try.pinned (OpenSpec.upto spanOrderSpec)

/-- 'tidewaylaw06.SpanChanges', WHERE WHAT IT READS IS OF BULK AT MOST 1048576: true; the input reads as it did. -/
def spanChangesUptoRow : OpenClaim := { program := "ythhnnfmfeofknaa", sum := "04d1b1e2cc60aea03aef852f4fd083701ca7d9d84eb424f73f788342bcf55034", func := "tideway/tidewaylaw06.SpanChanges", spec := "spanChanges", unfollowed := true, recurses := true, apart := false, narrowed := true }
def SpanChangesUptoSaid : Prop := spanChangesUptoRow.holds Try.pinned (OpenSpec.upto spanChangesSpec)

/-- 'tidewaylaw16.CubicGrows', WHERE WHAT IT READS IS OF BULK AT MOST 1048576: true; the input reads as it did. -/
def cubicGrowsUptoRow : OpenClaim := { program := "ythhnnfmfeofknaa", sum := "04d1b1e2cc60aea03aef852f4fd083701ca7d9d84eb424f73f788342bcf55034", func := "tideway/tidewaylaw16.CubicGrows", spec := "cubicGrows", unfollowed := true, recurses := true, named := ["math/bits.divideError", "math/bits.overflowError"], apart := false, narrowed := true }
def CubicGrowsUptoSaid : Prop := cubicGrowsUptoRow.holds Try.pinned (OpenSpec.upto cubicGrowsSpec)

/-- 'tidewaylaw16.CubicRises', WHERE WHAT IT READS IS OF BULK AT MOST 1048576: true; the input reads as it did. -/
def cubicRisesUptoRow : OpenClaim := { program := "ythhnnfmfeofknaa", sum := "04d1b1e2cc60aea03aef852f4fd083701ca7d9d84eb424f73f788342bcf55034", func := "tideway/tidewaylaw16.CubicRises", spec := "cubicRises", unfollowed := true, recurses := true, named := ["math/bits.divideError", "math/bits.overflowError"], apart := false, narrowed := true }
def CubicRisesUptoSaid : Prop := cubicRisesUptoRow.holds Try.pinned (OpenSpec.upto cubicRisesSpec)

/-- 'tidewaylaw16.CubicCurve', WHERE WHAT IT READS IS OF BULK AT MOST 1048576: true; the input reads as it did. -/
def cubicCurveUptoRow : OpenClaim := { program := "ythhnnfmfeofknaa", sum := "04d1b1e2cc60aea03aef852f4fd083701ca7d9d84eb424f73f788342bcf55034", func := "tideway/tidewaylaw16.CubicCurve", spec := "cubicCurve", unfollowed := true, recurses := true, named := ["math/bits.divideError", "math/bits.overflowError"], apart := false, narrowed := true }
def CubicCurveUptoSaid : Prop := cubicCurveUptoRow.holds Try.pinned (OpenSpec.upto cubicCurveSpec)

/-- 'tidewaylaw16.CubicBack', WHERE WHAT IT READS IS OF BULK AT MOST 1048576: true; the input reads as it did. -/
def cubicBackUptoRow : OpenClaim := { program := "ythhnnfmfeofknaa", sum := "04d1b1e2cc60aea03aef852f4fd083701ca7d9d84eb424f73f788342bcf55034", func := "tideway/tidewaylaw16.CubicBack", spec := "cubicBack", unfollowed := true, recurses := true, named := ["math/bits.divideError", "math/bits.overflowError"], apart := false, narrowed := true }
def CubicBackUptoSaid : Prop := cubicBackUptoRow.holds Try.pinned (OpenSpec.upto cubicBackSpec)

/-- 'tidewaylaw16.CubicFalls', WHERE WHAT IT READS IS OF BULK AT MOST 1048576: true; the input reads as it did. -/
def cubicFallsUptoRow : OpenClaim := { program := "ythhnnfmfeofknaa", sum := "04d1b1e2cc60aea03aef852f4fd083701ca7d9d84eb424f73f788342bcf55034", func := "tideway/tidewaylaw16.CubicFalls", spec := "cubicFalls", unfollowed := true, recurses := true, named := ["math/bits.divideError", "math/bits.overflowError"], apart := false, narrowed := true }
def CubicFallsUptoSaid : Prop := cubicFallsUptoRow.holds Try.pinned (OpenSpec.upto cubicFallsSpec)

/-- 'tidewaylaw19.CcBegins', WHERE WHAT IT READS IS OF BULK AT MOST 1048576: true; the input reads as it did. -/
def ccBeginsUptoRow : OpenClaim := { program := "ythhnnfmfeofknaa", sum := "04d1b1e2cc60aea03aef852f4fd083701ca7d9d84eb424f73f788342bcf55034", func := "tideway/tidewaylaw19.CcBegins", spec := "ccBegins", named := ["math/bits.divideError", "math/bits.overflowError"], apart := false, narrowed := true }
def CcBeginsUptoSaid : Prop := ccBeginsUptoRow.holds Try.pinned (OpenSpec.upto ccBeginsSpec)

/-- 'tidewaylaw19.CcRestLess', WHERE WHAT IT READS IS OF BULK AT MOST 1048576: true; the input reads as it did. -/
def ccRestLessUptoRow : OpenClaim := { program := "ythhnnfmfeofknaa", sum := "04d1b1e2cc60aea03aef852f4fd083701ca7d9d84eb424f73f788342bcf55034", func := "tideway/tidewaylaw19.CcRestLess", spec := "ccRestLess", named := ["math/bits.divideError", "math/bits.overflowError"], apart := false, narrowed := true }
def CcRestLessUptoSaid : Prop := ccRestLessUptoRow.holds Try.pinned (OpenSpec.upto ccRestLessSpec)

/-- 'tidewaylaw19.CcRests', WHERE WHAT IT READS IS OF BULK AT MOST 1048576: true; the input reads as it did. -/
def ccRestsUptoRow : OpenClaim := { program := "ythhnnfmfeofknaa", sum := "04d1b1e2cc60aea03aef852f4fd083701ca7d9d84eb424f73f788342bcf55034", func := "tideway/tidewaylaw19.CcRests", spec := "ccRests", named := ["math/bits.divideError", "math/bits.overflowError"], apart := false, narrowed := true }
def CcRestsUptoSaid : Prop := ccRestsUptoRow.holds Try.pinned (OpenSpec.upto ccRestsSpec)

/-- 'tidewaylaw18.BbrFalls', WHERE WHAT IT READS IS OF BULK AT MOST 1048576: true; the input reads as it did. -/
def bbrFallsUptoRow : OpenClaim := { program := "ythhnnfmfeofknaa", sum := "04d1b1e2cc60aea03aef852f4fd083701ca7d9d84eb424f73f788342bcf55034", func := "tideway/tidewaylaw18.BbrFalls", spec := "bbrFalls", named := ["math/bits.divideError", "math/bits.overflowError"], apart := false, narrowed := true }
def BbrFallsUptoSaid : Prop := bbrFallsUptoRow.holds Try.pinned (OpenSpec.upto bbrFallsSpec)

/-- 'tidewaylaw18.BbrStays', WHERE WHAT IT READS IS OF BULK AT MOST 1048576: true; the input reads as it did. -/
def bbrStaysUptoRow : OpenClaim := { program := "ythhnnfmfeofknaa", sum := "04d1b1e2cc60aea03aef852f4fd083701ca7d9d84eb424f73f788342bcf55034", func := "tideway/tidewaylaw18.BbrStays", spec := "bbrStays", named := ["math/bits.divideError", "math/bits.overflowError"], apart := false, narrowed := true }
def BbrStaysUptoSaid : Prop := bbrStaysUptoRow.holds Try.pinned (OpenSpec.upto bbrStaysSpec)

end Rows
end Go.Proofs.Ythhnnfmfeofknaa
