/-
  NARROWER THAN 'FOR EVERY INPUT', by the rows' own cells (each row's printed sentence says how): ScreenDraws: laid · ScreenSeen: laid · WrapsCells: laid · WrapsRows: laid · WrapsWhole: laid · WrapsPlaces: laid · WrapsAhead: laid · WrapsCursor: laid · ScreenPlain: laid.
  DERIVED. THE GIVEN ROWS OF THIS SEAT. 9 by the template 'for every input the law returns true; each argument reads behind the call as it read before'; 0 by the template 'total and deterministic' (their statements: YtnpdpfkoghhioaaDoorTotals.lean).
  GIVEN WITH THE SEED: the statements are not yours to turn. If you find one false, say at which input.
  Laid BY PROGRAM, IN A SANDBOX (cutbox-rows.mjs): the forced cells as the released guide's own fill.sh prints them over the translation 0929afc359b88ab6… (all of the seat's roots in one cut). By AI agents, Wed Nov 11 2026. No macro, syntax, notation, axiom, sorry.
-/
import Derived.Test.YtnpdpfkoghhioaaDoorChecked
import GoSem.Claim
import GoSem.ClaimJoined
import GoSem.ClaimMapViews
import Derived.JoinedTies
import Derived.KernelRfl
namespace Go.Proofs.YtnpdpfkoghhioaaDoor
/- THE CELL 'sum', in the pinned program and in every row, IS THE sha256 OF THE DUMP (.gsa) THAT YtnpdpfkoghhioaaDoorProg.lean LOADS. Nothing in Lean hashes anything: it is a label: what it is worth is what the hold of that sum in a sandbox is worth. -/
noncomputable def Tryd.pinned : Pinned := { name := "ytnpdpfkoghhioaadoor", sum := "0929afc359b88ab6ed860d9d934ed4fc87b311275f45bc67363f37881d42bd40", checked := Tryd.checked }
namespace Rows
def none {H : Type} : Left H := { results := [], args := [] }

/- WHAT THE LISTED PACKAGE-LEVEL VARIABLES READ AS WHEN THE CALL BEGINS. Each datum BY PROGRAM (the guide's laid-datum.mjs) off the statement by which the dump's own 'gosem.cut.vars' lays the variable. In a bare row this is a premise. The card (YtnpdpfkoghhioaaDoorCards.lean) ties it to the program's text. -/
def laid_math_bits_deBruijn32tab {H : Type} : DataW H := .agg [.lit (.int .u8 0), .lit (.int .u8 1), .lit (.int .u8 28), .lit (.int .u8 2), .lit (.int .u8 29), .lit (.int .u8 14), .lit (.int .u8 24), .lit (.int .u8 3), .lit (.int .u8 30), .lit (.int .u8 22), .lit (.int .u8 20), .lit (.int .u8 15), .lit (.int .u8 25), .lit (.int .u8 17), .lit (.int .u8 4), .lit (.int .u8 8), .lit (.int .u8 31), .lit (.int .u8 27), .lit (.int .u8 13), .lit (.int .u8 23), .lit (.int .u8 21), .lit (.int .u8 19), .lit (.int .u8 16), .lit (.int .u8 7), .lit (.int .u8 26), .lit (.int .u8 12), .lit (.int .u8 18), .lit (.int .u8 6), .lit (.int .u8 11), .lit (.int .u8 5), .lit (.int .u8 10), .lit (.int .u8 9)]
def laid_math_bits_deBruijn64tab {H : Type} : DataW H := .agg [.lit (.int .u8 0), .lit (.int .u8 1), .lit (.int .u8 56), .lit (.int .u8 2), .lit (.int .u8 57), .lit (.int .u8 49), .lit (.int .u8 28), .lit (.int .u8 3), .lit (.int .u8 61), .lit (.int .u8 58), .lit (.int .u8 42), .lit (.int .u8 50), .lit (.int .u8 38), .lit (.int .u8 29), .lit (.int .u8 17), .lit (.int .u8 4), .lit (.int .u8 62), .lit (.int .u8 47), .lit (.int .u8 59), .lit (.int .u8 36), .lit (.int .u8 45), .lit (.int .u8 43), .lit (.int .u8 51), .lit (.int .u8 22), .lit (.int .u8 53), .lit (.int .u8 39), .lit (.int .u8 33), .lit (.int .u8 30), .lit (.int .u8 24), .lit (.int .u8 18), .lit (.int .u8 12), .lit (.int .u8 5), .lit (.int .u8 63), .lit (.int .u8 55), .lit (.int .u8 48), .lit (.int .u8 27), .lit (.int .u8 60), .lit (.int .u8 41), .lit (.int .u8 37), .lit (.int .u8 16), .lit (.int .u8 46), .lit (.int .u8 35), .lit (.int .u8 44), .lit (.int .u8 21), .lit (.int .u8 52), .lit (.int .u8 32), .lit (.int .u8 23), .lit (.int .u8 11), .lit (.int .u8 54), .lit (.int .u8 26), .lit (.int .u8 40), .lit (.int .u8 15), .lit (.int .u8 34), .lit (.int .u8 20), .lit (.int .u8 31), .lit (.int .u8 10), .lit (.int .u8 25), .lit (.int .u8 14), .lit (.int .u8 19), .lit (.int .u8 9), .lit (.int .u8 13), .lit (.int .u8 8), .lit (.int .u8 7), .lit (.int .u8 6)]
def laid_internal_strconv_uint64pow10 {H : Type} : DataW H := .agg [.lit (.int .u64 1), .lit (.int .u64 10), .lit (.int .u64 100), .lit (.int .u64 1000), .lit (.int .u64 10000), .lit (.int .u64 100000), .lit (.int .u64 1000000), .lit (.int .u64 10000000), .lit (.int .u64 100000000), .lit (.int .u64 1000000000), .lit (.int .u64 10000000000), .lit (.int .u64 100000000000), .lit (.int .u64 1000000000000), .lit (.int .u64 10000000000000), .lit (.int .u64 100000000000000), .lit (.int .u64 1000000000000000), .lit (.int .u64 10000000000000000), .lit (.int .u64 100000000000000000), .lit (.int .u64 1000000000000000000), .lit (.int .u64 10000000000000000000)]

/-- 'inkhornlaw29.ScreenDraws': WHATEVER THE INPUT: true; the input reads as it did. -/
def screenDrawsSpec : ChangeSpec := { name := "screenDraws", fn := fun _ => fun
  | [d1, d2, d3] => { results := [.lit (.bool true)], args := [d1, d2, d3] }
  | _ => none }
def screenDrawsRow : OpenClaim := { program := "ytnpdpfkoghhioaadoor", sum := "0929afc359b88ab6ed860d9d934ed4fc87b311275f45bc67363f37881d42bd40", func := "inkhorn/inkhornlaw29.ScreenDraws", spec := "screenDraws", inPlace := ["internal/bytealg.MakeNoZero", "internal/abi.NoEscape"], unfollowed := true, recurses := true, named := ["internal/strconv.uint64pow10", "math/bits.deBruijn32tab", "math/bits.deBruijn64tab"], apart := false, laid := [("math/bits.deBruijn32tab", laid_math_bits_deBruijn32tab), ("math/bits.deBruijn64tab", laid_math_bits_deBruijn64tab), ("internal/strconv.uint64pow10", laid_internal_strconv_uint64pow10)] }
def ScreenDrawsSaid : Prop := screenDrawsRow.holds Tryd.pinned (OpenSpec.ofChange screenDrawsSpec)

/-- ITS FALSE NEIGHBOUR: 'it returns false'. Refute it at one input. -/
def screenDrawsWrong : ChangeSpec := { name := "screenDraws", fn := fun _ => fun
  | [d1, d2, d3] => { results := [.lit (.bool false)], args := [d1, d2, d3] }
  | _ => none }
def ScreenDrawsWrongFalsely : Prop := screenDrawsRow.holds Tryd.pinned (OpenSpec.ofChange screenDrawsWrong)

/-- 'inkhornlaw29.ScreenSeen': WHATEVER THE INPUT: true; the input reads as it did. -/
def screenSeenSpec : ChangeSpec := { name := "screenSeen", fn := fun _ => fun
  | [d1, d2] => { results := [.lit (.bool true)], args := [d1, d2] }
  | _ => none }
def screenSeenRow : OpenClaim := { program := "ytnpdpfkoghhioaadoor", sum := "0929afc359b88ab6ed860d9d934ed4fc87b311275f45bc67363f37881d42bd40", func := "inkhorn/inkhornlaw29.ScreenSeen", spec := "screenSeen", inPlace := ["internal/bytealg.MakeNoZero", "internal/abi.NoEscape"], unfollowed := true, recurses := true, named := ["internal/strconv.uint64pow10", "math/bits.deBruijn32tab", "math/bits.deBruijn64tab"], apart := false, laid := [("math/bits.deBruijn32tab", laid_math_bits_deBruijn32tab), ("math/bits.deBruijn64tab", laid_math_bits_deBruijn64tab), ("internal/strconv.uint64pow10", laid_internal_strconv_uint64pow10)] }
def ScreenSeenSaid : Prop := screenSeenRow.holds Tryd.pinned (OpenSpec.ofChange screenSeenSpec)

/-- ITS FALSE NEIGHBOUR: 'it returns false'. Refute it at one input. -/
def screenSeenWrong : ChangeSpec := { name := "screenSeen", fn := fun _ => fun
  | [d1, d2] => { results := [.lit (.bool false)], args := [d1, d2] }
  | _ => none }
def ScreenSeenWrongFalsely : Prop := screenSeenRow.holds Tryd.pinned (OpenSpec.ofChange screenSeenWrong)

/-- 'inkhornlaw14.WrapsCells': WHATEVER THE INPUT: true; the input reads as it did. -/
def wrapsCellsSpec : ChangeSpec := { name := "wrapsCells", fn := fun _ => fun
  | [d] => { results := [.lit (.bool true)], args := [d] }
  | _ => none }
def wrapsCellsRow : OpenClaim := { program := "ytnpdpfkoghhioaadoor", sum := "0929afc359b88ab6ed860d9d934ed4fc87b311275f45bc67363f37881d42bd40", func := "inkhorn/inkhornlaw14.WrapsCells", spec := "wrapsCells", inPlace := ["internal/abi.NoEscape", "internal/bytealg.MakeNoZero"], named := ["internal/strconv.uint64pow10", "math/bits.deBruijn32tab", "math/bits.deBruijn64tab"], apart := false, laid := [("math/bits.deBruijn32tab", laid_math_bits_deBruijn32tab), ("math/bits.deBruijn64tab", laid_math_bits_deBruijn64tab), ("internal/strconv.uint64pow10", laid_internal_strconv_uint64pow10)] }
def WrapsCellsSaid : Prop := wrapsCellsRow.holds Tryd.pinned (OpenSpec.ofChange wrapsCellsSpec)

/-- ITS FALSE NEIGHBOUR: 'it returns false'. Refute it at one input. -/
def wrapsCellsWrong : ChangeSpec := { name := "wrapsCells", fn := fun _ => fun
  | [d] => { results := [.lit (.bool false)], args := [d] }
  | _ => none }
def WrapsCellsWrongFalsely : Prop := wrapsCellsRow.holds Tryd.pinned (OpenSpec.ofChange wrapsCellsWrong)

/-- 'inkhornlaw14.WrapsRows': WHATEVER THE INPUT: true; the input reads as it did. -/
def wrapsRowsSpec : ChangeSpec := { name := "wrapsRows", fn := fun _ => fun
  | [d1, d2, d3] => { results := [.lit (.bool true)], args := [d1, d2, d3] }
  | _ => none }
def wrapsRowsRow : OpenClaim := { program := "ytnpdpfkoghhioaadoor", sum := "0929afc359b88ab6ed860d9d934ed4fc87b311275f45bc67363f37881d42bd40", func := "inkhorn/inkhornlaw14.WrapsRows", spec := "wrapsRows", inPlace := ["internal/abi.NoEscape", "internal/bytealg.MakeNoZero"], named := ["internal/strconv.uint64pow10", "math/bits.deBruijn32tab", "math/bits.deBruijn64tab"], apart := false, laid := [("math/bits.deBruijn32tab", laid_math_bits_deBruijn32tab), ("math/bits.deBruijn64tab", laid_math_bits_deBruijn64tab), ("internal/strconv.uint64pow10", laid_internal_strconv_uint64pow10)] }
def WrapsRowsSaid : Prop := wrapsRowsRow.holds Tryd.pinned (OpenSpec.ofChange wrapsRowsSpec)

/-- ITS FALSE NEIGHBOUR: 'it returns false'. Refute it at one input. -/
def wrapsRowsWrong : ChangeSpec := { name := "wrapsRows", fn := fun _ => fun
  | [d1, d2, d3] => { results := [.lit (.bool false)], args := [d1, d2, d3] }
  | _ => none }
def WrapsRowsWrongFalsely : Prop := wrapsRowsRow.holds Tryd.pinned (OpenSpec.ofChange wrapsRowsWrong)

/-- 'inkhornlaw14.WrapsWhole': WHATEVER THE INPUT: true; the input reads as it did. -/
def wrapsWholeSpec : ChangeSpec := { name := "wrapsWhole", fn := fun _ => fun
  | [d1, d2] => { results := [.lit (.bool true)], args := [d1, d2] }
  | _ => none }
def wrapsWholeRow : OpenClaim := { program := "ytnpdpfkoghhioaadoor", sum := "0929afc359b88ab6ed860d9d934ed4fc87b311275f45bc67363f37881d42bd40", func := "inkhorn/inkhornlaw14.WrapsWhole", spec := "wrapsWhole", inPlace := ["internal/abi.NoEscape", "internal/bytealg.MakeNoZero"], named := ["internal/strconv.uint64pow10", "math/bits.deBruijn32tab", "math/bits.deBruijn64tab"], apart := false, laid := [("math/bits.deBruijn32tab", laid_math_bits_deBruijn32tab), ("math/bits.deBruijn64tab", laid_math_bits_deBruijn64tab), ("internal/strconv.uint64pow10", laid_internal_strconv_uint64pow10)] }
def WrapsWholeSaid : Prop := wrapsWholeRow.holds Tryd.pinned (OpenSpec.ofChange wrapsWholeSpec)

/-- ITS FALSE NEIGHBOUR: 'it returns false'. Refute it at one input. -/
def wrapsWholeWrong : ChangeSpec := { name := "wrapsWhole", fn := fun _ => fun
  | [d1, d2] => { results := [.lit (.bool false)], args := [d1, d2] }
  | _ => none }
def WrapsWholeWrongFalsely : Prop := wrapsWholeRow.holds Tryd.pinned (OpenSpec.ofChange wrapsWholeWrong)

/-- 'inkhornlaw14.WrapsPlaces': WHATEVER THE INPUT: true; the input reads as it did. -/
def wrapsPlacesSpec : ChangeSpec := { name := "wrapsPlaces", fn := fun _ => fun
  | [d] => { results := [.lit (.bool true)], args := [d] }
  | _ => none }
def wrapsPlacesRow : OpenClaim := { program := "ytnpdpfkoghhioaadoor", sum := "0929afc359b88ab6ed860d9d934ed4fc87b311275f45bc67363f37881d42bd40", func := "inkhorn/inkhornlaw14.WrapsPlaces", spec := "wrapsPlaces", inPlace := ["internal/abi.NoEscape", "internal/bytealg.MakeNoZero"], named := ["internal/strconv.uint64pow10", "math/bits.deBruijn32tab", "math/bits.deBruijn64tab"], apart := false, laid := [("math/bits.deBruijn32tab", laid_math_bits_deBruijn32tab), ("math/bits.deBruijn64tab", laid_math_bits_deBruijn64tab), ("internal/strconv.uint64pow10", laid_internal_strconv_uint64pow10)] }
def WrapsPlacesSaid : Prop := wrapsPlacesRow.holds Tryd.pinned (OpenSpec.ofChange wrapsPlacesSpec)

/-- ITS FALSE NEIGHBOUR: 'it returns false'. Refute it at one input. -/
def wrapsPlacesWrong : ChangeSpec := { name := "wrapsPlaces", fn := fun _ => fun
  | [d] => { results := [.lit (.bool false)], args := [d] }
  | _ => none }
def WrapsPlacesWrongFalsely : Prop := wrapsPlacesRow.holds Tryd.pinned (OpenSpec.ofChange wrapsPlacesWrong)

/-- 'inkhornlaw14.WrapsAhead': WHATEVER THE INPUT: true; the input reads as it did. -/
def wrapsAheadSpec : ChangeSpec := { name := "wrapsAhead", fn := fun _ => fun
  | [d1, d2, d3] => { results := [.lit (.bool true)], args := [d1, d2, d3] }
  | _ => none }
def wrapsAheadRow : OpenClaim := { program := "ytnpdpfkoghhioaadoor", sum := "0929afc359b88ab6ed860d9d934ed4fc87b311275f45bc67363f37881d42bd40", func := "inkhorn/inkhornlaw14.WrapsAhead", spec := "wrapsAhead", inPlace := ["internal/abi.NoEscape", "internal/bytealg.MakeNoZero"], named := ["internal/strconv.uint64pow10", "math/bits.deBruijn32tab", "math/bits.deBruijn64tab"], apart := false, laid := [("math/bits.deBruijn32tab", laid_math_bits_deBruijn32tab), ("math/bits.deBruijn64tab", laid_math_bits_deBruijn64tab), ("internal/strconv.uint64pow10", laid_internal_strconv_uint64pow10)] }
def WrapsAheadSaid : Prop := wrapsAheadRow.holds Tryd.pinned (OpenSpec.ofChange wrapsAheadSpec)

/-- ITS FALSE NEIGHBOUR: 'it returns false'. Refute it at one input. -/
def wrapsAheadWrong : ChangeSpec := { name := "wrapsAhead", fn := fun _ => fun
  | [d1, d2, d3] => { results := [.lit (.bool false)], args := [d1, d2, d3] }
  | _ => none }
def WrapsAheadWrongFalsely : Prop := wrapsAheadRow.holds Tryd.pinned (OpenSpec.ofChange wrapsAheadWrong)

/-- 'inkhornlaw14.WrapsCursor': WHATEVER THE INPUT: true; the input reads as it did. -/
def wrapsCursorSpec : ChangeSpec := { name := "wrapsCursor", fn := fun _ => fun
  | [d1, d2, d3] => { results := [.lit (.bool true)], args := [d1, d2, d3] }
  | _ => none }
def wrapsCursorRow : OpenClaim := { program := "ytnpdpfkoghhioaadoor", sum := "0929afc359b88ab6ed860d9d934ed4fc87b311275f45bc67363f37881d42bd40", func := "inkhorn/inkhornlaw14.WrapsCursor", spec := "wrapsCursor", inPlace := ["internal/abi.NoEscape", "internal/bytealg.MakeNoZero"], named := ["internal/strconv.uint64pow10", "math/bits.deBruijn32tab", "math/bits.deBruijn64tab"], apart := false, laid := [("math/bits.deBruijn32tab", laid_math_bits_deBruijn32tab), ("math/bits.deBruijn64tab", laid_math_bits_deBruijn64tab), ("internal/strconv.uint64pow10", laid_internal_strconv_uint64pow10)] }
def WrapsCursorSaid : Prop := wrapsCursorRow.holds Tryd.pinned (OpenSpec.ofChange wrapsCursorSpec)

/-- ITS FALSE NEIGHBOUR: 'it returns false'. Refute it at one input. -/
def wrapsCursorWrong : ChangeSpec := { name := "wrapsCursor", fn := fun _ => fun
  | [d1, d2, d3] => { results := [.lit (.bool false)], args := [d1, d2, d3] }
  | _ => none }
def WrapsCursorWrongFalsely : Prop := wrapsCursorRow.holds Tryd.pinned (OpenSpec.ofChange wrapsCursorWrong)

/-- 'inkhornlaw29.ScreenPlain': WHATEVER THE INPUT: true; the input reads as it did. -/
def screenPlainSpec : ChangeSpec := { name := "screenPlain", fn := fun _ => fun
  | [d1, d2] => { results := [.lit (.bool true)], args := [d1, d2] }
  | _ => none }
def screenPlainRow : OpenClaim := { program := "ytnpdpfkoghhioaadoor", sum := "0929afc359b88ab6ed860d9d934ed4fc87b311275f45bc67363f37881d42bd40", func := "inkhorn/inkhornlaw29.ScreenPlain", spec := "screenPlain", inPlace := ["internal/bytealg.MakeNoZero", "internal/abi.NoEscape"], named := ["internal/strconv.uint64pow10", "math/bits.deBruijn32tab", "math/bits.deBruijn64tab"], apart := false, laid := [("math/bits.deBruijn32tab", laid_math_bits_deBruijn32tab), ("math/bits.deBruijn64tab", laid_math_bits_deBruijn64tab), ("internal/strconv.uint64pow10", laid_internal_strconv_uint64pow10)] }
def ScreenPlainSaid : Prop := screenPlainRow.holds Tryd.pinned (OpenSpec.ofChange screenPlainSpec)

/-- ITS FALSE NEIGHBOUR: 'it returns false'. Refute it at one input. -/
def screenPlainWrong : ChangeSpec := { name := "screenPlain", fn := fun _ => fun
  | [d1, d2] => { results := [.lit (.bool false)], args := [d1, d2] }
  | _ => none }
def ScreenPlainWrongFalsely : Prop := screenPlainRow.holds Tryd.pinned (OpenSpec.ofChange screenPlainWrong)

/- THE SECOND FORM. 'bulk': how many values and letters a reading holds, each counted each time it is reached (what is shared counts as often as it is met; a slice's spare places count too). A statement '..UptoSaid' is the law's where the arguments, and the package variables that the reading takes, are together of bulk at most 1048576: NARROWER than '..Said'. Prove '..Said' where nothing that the law and all that it calls make is longer than what came in: it says more and counts as full. Else prove '..UptoSaid'. A law counts once. -/
mutual
def uptoBulk {H : Type} : DataW H → Nat
  | .lit (.string bytes) => bytes.length + 1
  | .lit _ => 1
  | .nil => 1
  | .ptr d => uptoBulk d + 1
  | .slice elems spare => uptoBulkAll elems + uptoBulkAll spare + 1
  | .agg parts => uptoBulkAll parts + 1
  | .iface _ d => uptoBulk d + 1
  | .map entries => uptoBulkEntries entries + 1
  | .held _ => 1
def uptoBulkAll {H : Type} : List (DataW H) → Nat
  | [] => 0
  | d :: r => uptoBulk d + uptoBulkAll r
def uptoBulkEntries {H : Type} : List (Lit × DataW H) → Nat
  | [] => 0
  | x :: r => uptoBulkEntry x + uptoBulkEntries r
def uptoBulkEntry {H : Type} : Lit × DataW H → Nat
  | (.string bytes, d) => bytes.length + uptoBulk d + 1
  | (_, d) => uptoBulk d + 1
 end
def uptoSmall : (H : Type) → List (DataW H) → Bool := fun _ ds => decide (uptoBulkAll ds ≤ 1048576)
def OpenSpec.upto (s : _root_.Go.ChangeSpec) : _root_.Go.OpenSpec := { _root_.Go.OpenSpec.ofChange s with cond := some uptoSmall }

/-- 'inkhornlaw29.ScreenDraws', WHERE WHAT IT READS IS OF BULK AT MOST 1048576: true; the input reads as it did. -/
def screenDrawsUptoRow : OpenClaim := { program := "ytnpdpfkoghhioaadoor", sum := "0929afc359b88ab6ed860d9d934ed4fc87b311275f45bc67363f37881d42bd40", func := "inkhorn/inkhornlaw29.ScreenDraws", spec := "screenDraws", inPlace := ["internal/bytealg.MakeNoZero", "internal/abi.NoEscape"], unfollowed := true, recurses := true, named := ["internal/strconv.uint64pow10", "math/bits.deBruijn32tab", "math/bits.deBruijn64tab"], apart := false, laid := [("math/bits.deBruijn32tab", laid_math_bits_deBruijn32tab), ("math/bits.deBruijn64tab", laid_math_bits_deBruijn64tab), ("internal/strconv.uint64pow10", laid_internal_strconv_uint64pow10)], narrowed := true }
def ScreenDrawsUptoSaid : Prop := screenDrawsUptoRow.holds Tryd.pinned (OpenSpec.upto screenDrawsSpec)

/-- 'inkhornlaw29.ScreenSeen', WHERE WHAT IT READS IS OF BULK AT MOST 1048576: true; the input reads as it did. -/
def screenSeenUptoRow : OpenClaim := { program := "ytnpdpfkoghhioaadoor", sum := "0929afc359b88ab6ed860d9d934ed4fc87b311275f45bc67363f37881d42bd40", func := "inkhorn/inkhornlaw29.ScreenSeen", spec := "screenSeen", inPlace := ["internal/bytealg.MakeNoZero", "internal/abi.NoEscape"], unfollowed := true, recurses := true, named := ["internal/strconv.uint64pow10", "math/bits.deBruijn32tab", "math/bits.deBruijn64tab"], apart := false, laid := [("math/bits.deBruijn32tab", laid_math_bits_deBruijn32tab), ("math/bits.deBruijn64tab", laid_math_bits_deBruijn64tab), ("internal/strconv.uint64pow10", laid_internal_strconv_uint64pow10)], narrowed := true }
def ScreenSeenUptoSaid : Prop := screenSeenUptoRow.holds Tryd.pinned (OpenSpec.upto screenSeenSpec)

/-- 'inkhornlaw14.WrapsCells', WHERE WHAT IT READS IS OF BULK AT MOST 1048576: true; the input reads as it did. -/
def wrapsCellsUptoRow : OpenClaim := { program := "ytnpdpfkoghhioaadoor", sum := "0929afc359b88ab6ed860d9d934ed4fc87b311275f45bc67363f37881d42bd40", func := "inkhorn/inkhornlaw14.WrapsCells", spec := "wrapsCells", inPlace := ["internal/abi.NoEscape", "internal/bytealg.MakeNoZero"], named := ["internal/strconv.uint64pow10", "math/bits.deBruijn32tab", "math/bits.deBruijn64tab"], apart := false, laid := [("math/bits.deBruijn32tab", laid_math_bits_deBruijn32tab), ("math/bits.deBruijn64tab", laid_math_bits_deBruijn64tab), ("internal/strconv.uint64pow10", laid_internal_strconv_uint64pow10)], narrowed := true }
def WrapsCellsUptoSaid : Prop := wrapsCellsUptoRow.holds Tryd.pinned (OpenSpec.upto wrapsCellsSpec)

/-- 'inkhornlaw14.WrapsRows', WHERE WHAT IT READS IS OF BULK AT MOST 1048576: true; the input reads as it did. -/
def wrapsRowsUptoRow : OpenClaim := { program := "ytnpdpfkoghhioaadoor", sum := "0929afc359b88ab6ed860d9d934ed4fc87b311275f45bc67363f37881d42bd40", func := "inkhorn/inkhornlaw14.WrapsRows", spec := "wrapsRows", inPlace := ["internal/abi.NoEscape", "internal/bytealg.MakeNoZero"], named := ["internal/strconv.uint64pow10", "math/bits.deBruijn32tab", "math/bits.deBruijn64tab"], apart := false, laid := [("math/bits.deBruijn32tab", laid_math_bits_deBruijn32tab), ("math/bits.deBruijn64tab", laid_math_bits_deBruijn64tab), ("internal/strconv.uint64pow10", laid_internal_strconv_uint64pow10)], narrowed := true }
def WrapsRowsUptoSaid : Prop := wrapsRowsUptoRow.holds Tryd.pinned (OpenSpec.upto wrapsRowsSpec)

/-- 'inkhornlaw14.WrapsWhole', WHERE WHAT IT READS IS OF BULK AT MOST 1048576: true; the input reads as it did. -/
def wrapsWholeUptoRow : OpenClaim := { program := "ytnpdpfkoghhioaadoor", sum := "0929afc359b88ab6ed860d9d934ed4fc87b311275f45bc67363f37881d42bd40", func := "inkhorn/inkhornlaw14.WrapsWhole", spec := "wrapsWhole", inPlace := ["internal/abi.NoEscape", "internal/bytealg.MakeNoZero"], named := ["internal/strconv.uint64pow10", "math/bits.deBruijn32tab", "math/bits.deBruijn64tab"], apart := false, laid := [("math/bits.deBruijn32tab", laid_math_bits_deBruijn32tab), ("math/bits.deBruijn64tab", laid_math_bits_deBruijn64tab), ("internal/strconv.uint64pow10", laid_internal_strconv_uint64pow10)], narrowed := true }
def WrapsWholeUptoSaid : Prop := wrapsWholeUptoRow.holds Tryd.pinned (OpenSpec.upto wrapsWholeSpec)

/-- 'inkhornlaw14.WrapsPlaces', WHERE WHAT IT READS IS OF BULK AT MOST 1048576: true; the input reads as it did. -/
def wrapsPlacesUptoRow : OpenClaim := { program := "ytnpdpfkoghhioaadoor", sum := "0929afc359b88ab6ed860d9d934ed4fc87b311275f45bc67363f37881d42bd40", func := "inkhorn/inkhornlaw14.WrapsPlaces", spec := "wrapsPlaces", inPlace := ["internal/abi.NoEscape", "internal/bytealg.MakeNoZero"], named := ["internal/strconv.uint64pow10", "math/bits.deBruijn32tab", "math/bits.deBruijn64tab"], apart := false, laid := [("math/bits.deBruijn32tab", laid_math_bits_deBruijn32tab), ("math/bits.deBruijn64tab", laid_math_bits_deBruijn64tab), ("internal/strconv.uint64pow10", laid_internal_strconv_uint64pow10)], narrowed := true }
def WrapsPlacesUptoSaid : Prop := wrapsPlacesUptoRow.holds Tryd.pinned (OpenSpec.upto wrapsPlacesSpec)

/-- 'inkhornlaw14.WrapsAhead', WHERE WHAT IT READS IS OF BULK AT MOST 1048576: true; the input reads as it did. -/
def wrapsAheadUptoRow : OpenClaim := { program := "ytnpdpfkoghhioaadoor", sum := "0929afc359b88ab6ed860d9d934ed4fc87b311275f45bc67363f37881d42bd40", func := "inkhorn/inkhornlaw14.WrapsAhead", spec := "wrapsAhead", inPlace := ["internal/abi.NoEscape", "internal/bytealg.MakeNoZero"], named := ["internal/strconv.uint64pow10", "math/bits.deBruijn32tab", "math/bits.deBruijn64tab"], apart := false, laid := [("math/bits.deBruijn32tab", laid_math_bits_deBruijn32tab), ("math/bits.deBruijn64tab", laid_math_bits_deBruijn64tab), ("internal/strconv.uint64pow10", laid_internal_strconv_uint64pow10)], narrowed := true }
def WrapsAheadUptoSaid : Prop := wrapsAheadUptoRow.holds Tryd.pinned (OpenSpec.upto wrapsAheadSpec)

/-- 'inkhornlaw14.WrapsCursor', WHERE WHAT IT READS IS OF BULK AT MOST 1048576: true; the input reads as it did. -/
def wrapsCursorUptoRow : OpenClaim := { program := "ytnpdpfkoghhioaadoor", sum := "0929afc359b88ab6ed860d9d934ed4fc87b311275f45bc67363f37881d42bd40", func := "inkhorn/inkhornlaw14.WrapsCursor", spec := "wrapsCursor", inPlace := ["internal/abi.NoEscape", "internal/bytealg.MakeNoZero"], named := ["internal/strconv.uint64pow10", "math/bits.deBruijn32tab", "math/bits.deBruijn64tab"], apart := false, laid := [("math/bits.deBruijn32tab", laid_math_bits_deBruijn32tab), ("math/bits.deBruijn64tab", laid_math_bits_deBruijn64tab), ("internal/strconv.uint64pow10", laid_internal_strconv_uint64pow10)], narrowed := true }
def WrapsCursorUptoSaid : Prop := wrapsCursorUptoRow.holds Tryd.pinned (OpenSpec.upto wrapsCursorSpec)

/-- 'inkhornlaw29.ScreenPlain', WHERE WHAT IT READS IS OF BULK AT MOST 1048576: true; the input reads as it did. -/
def screenPlainUptoRow : OpenClaim := { program := "ytnpdpfkoghhioaadoor", sum := "0929afc359b88ab6ed860d9d934ed4fc87b311275f45bc67363f37881d42bd40", func := "inkhorn/inkhornlaw29.ScreenPlain", spec := "screenPlain", inPlace := ["internal/bytealg.MakeNoZero", "internal/abi.NoEscape"], named := ["internal/strconv.uint64pow10", "math/bits.deBruijn32tab", "math/bits.deBruijn64tab"], apart := false, laid := [("math/bits.deBruijn32tab", laid_math_bits_deBruijn32tab), ("math/bits.deBruijn64tab", laid_math_bits_deBruijn64tab), ("internal/strconv.uint64pow10", laid_internal_strconv_uint64pow10)], narrowed := true }
def ScreenPlainUptoSaid : Prop := screenPlainUptoRow.holds Tryd.pinned (OpenSpec.upto screenPlainSpec)

end Rows
end Go.Proofs.YtnpdpfkoghhioaaDoor
