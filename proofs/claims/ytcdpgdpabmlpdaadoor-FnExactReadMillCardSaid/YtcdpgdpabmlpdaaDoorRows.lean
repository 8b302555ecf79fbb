/-
  NARROWER THAN 'FOR EVERY INPUT', by the rows' own cells (each row's printed sentence says how): FnExactRainText: laid · FnExactMillText: laid · FnExactGateText: laid · FnExactDikeText: laid · FnExactTidesText: laid · FnExactReadRain: laid · FnExactReadDike: laid · FnExactReadTides: laid · FnExactReadMill: laid.
  DERIVED. THE GIVEN ROWS OF THIS SEAT. 9 by the template 'for every input the law returns true; each argument reads behind the call as it read before'; 0 by the template 'total and deterministic' (their statements: YtcdpgdpabmlpdaaDoorTotals.lean).
  GIVEN WITH THE SEED: the statements are not yours to turn. If you find one false, say at which input.
  Laid BY PROGRAM, IN A SANDBOX (cutbox-rows.mjs): the forced cells as the released guide's own fill.sh prints them over the translation f53b7d7a7c2aad18… (all of the seat's roots in one cut). By AI agents, Wed Nov 11 2026. No macro, syntax, notation, axiom, sorry.
-/
import Derived.Test.YtcdpgdpabmlpdaaDoorChecked
import GoSem.PinnedTables
import GoSem.Claim
import GoSem.ClaimJoined
import GoSem.ClaimMapViews
import Derived.JoinedTies
import Derived.KernelRfl
namespace Go.Proofs.YtcdpgdpabmlpdaaDoor
/- THE CELL 'sum', in the pinned program and in every row, IS THE sha256 OF THE DUMP (.gsa) THAT YtcdpgdpabmlpdaaDoorProg.lean LOADS. Nothing in Lean hashes anything: it is a label: what it is worth is what the hold of that sum in a sandbox is worth. -/
noncomputable def Tryd.pinned : Pinned := { name := "ytcdpgdpabmlpdaadoor", sum := "f53b7d7a7c2aad185a24634eb3162683e9a743a90d3e296529355cdee156810e", checked := Tryd.checked }
namespace Rows
def none {H : Type} : Left H := { results := [], args := [] }

/- WHAT THE LISTED PACKAGE-LEVEL VARIABLES READ AS WHEN THE CALL BEGINS. Each datum BY PROGRAM (the guide's laid-datum.mjs) off the statement by which the dump's own 'gosem.cut.vars' lays the variable. In a bare row this is a premise. The card (YtcdpgdpabmlpdaaDoorCards.lean) ties it to the program's text. -/
def laid_math_bits_deBruijn32tab {H : Type} : DataW H := .agg [.lit (.int .u8 0), .lit (.int .u8 1), .lit (.int .u8 28), .lit (.int .u8 2), .lit (.int .u8 29), .lit (.int .u8 14), .lit (.int .u8 24), .lit (.int .u8 3), .lit (.int .u8 30), .lit (.int .u8 22), .lit (.int .u8 20), .lit (.int .u8 15), .lit (.int .u8 25), .lit (.int .u8 17), .lit (.int .u8 4), .lit (.int .u8 8), .lit (.int .u8 31), .lit (.int .u8 27), .lit (.int .u8 13), .lit (.int .u8 23), .lit (.int .u8 21), .lit (.int .u8 19), .lit (.int .u8 16), .lit (.int .u8 7), .lit (.int .u8 26), .lit (.int .u8 12), .lit (.int .u8 18), .lit (.int .u8 6), .lit (.int .u8 11), .lit (.int .u8 5), .lit (.int .u8 10), .lit (.int .u8 9)]
def laid_math_bits_deBruijn64tab {H : Type} : DataW H := .agg [.lit (.int .u8 0), .lit (.int .u8 1), .lit (.int .u8 56), .lit (.int .u8 2), .lit (.int .u8 57), .lit (.int .u8 49), .lit (.int .u8 28), .lit (.int .u8 3), .lit (.int .u8 61), .lit (.int .u8 58), .lit (.int .u8 42), .lit (.int .u8 50), .lit (.int .u8 38), .lit (.int .u8 29), .lit (.int .u8 17), .lit (.int .u8 4), .lit (.int .u8 62), .lit (.int .u8 47), .lit (.int .u8 59), .lit (.int .u8 36), .lit (.int .u8 45), .lit (.int .u8 43), .lit (.int .u8 51), .lit (.int .u8 22), .lit (.int .u8 53), .lit (.int .u8 39), .lit (.int .u8 33), .lit (.int .u8 30), .lit (.int .u8 24), .lit (.int .u8 18), .lit (.int .u8 12), .lit (.int .u8 5), .lit (.int .u8 63), .lit (.int .u8 55), .lit (.int .u8 48), .lit (.int .u8 27), .lit (.int .u8 60), .lit (.int .u8 41), .lit (.int .u8 37), .lit (.int .u8 16), .lit (.int .u8 46), .lit (.int .u8 35), .lit (.int .u8 44), .lit (.int .u8 21), .lit (.int .u8 52), .lit (.int .u8 32), .lit (.int .u8 23), .lit (.int .u8 11), .lit (.int .u8 54), .lit (.int .u8 26), .lit (.int .u8 40), .lit (.int .u8 15), .lit (.int .u8 34), .lit (.int .u8 20), .lit (.int .u8 31), .lit (.int .u8 10), .lit (.int .u8 25), .lit (.int .u8 14), .lit (.int .u8 19), .lit (.int .u8 9), .lit (.int .u8 13), .lit (.int .u8 8), .lit (.int .u8 7), .lit (.int .u8 6)]
def laid_internal_strconv_uint64pow10 {H : Type} : DataW H := .agg [.lit (.int .u64 1), .lit (.int .u64 10), .lit (.int .u64 100), .lit (.int .u64 1000), .lit (.int .u64 10000), .lit (.int .u64 100000), .lit (.int .u64 1000000), .lit (.int .u64 10000000), .lit (.int .u64 100000000), .lit (.int .u64 1000000000), .lit (.int .u64 10000000000), .lit (.int .u64 100000000000), .lit (.int .u64 1000000000000), .lit (.int .u64 10000000000000), .lit (.int .u64 100000000000000), .lit (.int .u64 1000000000000000), .lit (.int .u64 10000000000000000), .lit (.int .u64 100000000000000000), .lit (.int .u64 1000000000000000000), .lit (.int .u64 10000000000000000000)]
def laid_strconv_ErrRange {H : Type} : DataW H := .iface "*errors.errorString" (.ptr (.agg [.lit (.string [118, 97, 108, 117, 101, 32, 111, 117, 116, 32, 111, 102, 32, 114, 97, 110, 103, 101])]))
def laid_strconv_ErrSyntax {H : Type} : DataW H := .iface "*errors.errorString" (.ptr (.agg [.lit (.string [105, 110, 118, 97, 108, 105, 100, 32, 115, 121, 110, 116, 97, 120])]))
def laid_unicode_utf8_acceptRanges {H : Type} : DataW H := .agg [.agg [.lit (.int .u8 128), .lit (.int .u8 191)], .agg [.lit (.int .u8 160), .lit (.int .u8 191)], .agg [.lit (.int .u8 128), .lit (.int .u8 159)], .agg [.lit (.int .u8 144), .lit (.int .u8 191)], .agg [.lit (.int .u8 128), .lit (.int .u8 143)], .agg [.lit (.int .u8 0), .lit (.int .u8 0)], .agg [.lit (.int .u8 0), .lit (.int .u8 0)], .agg [.lit (.int .u8 0), .lit (.int .u8 0)], .agg [.lit (.int .u8 0), .lit (.int .u8 0)], .agg [.lit (.int .u8 0), .lit (.int .u8 0)], .agg [.lit (.int .u8 0), .lit (.int .u8 0)], .agg [.lit (.int .u8 0), .lit (.int .u8 0)], .agg [.lit (.int .u8 0), .lit (.int .u8 0)], .agg [.lit (.int .u8 0), .lit (.int .u8 0)], .agg [.lit (.int .u8 0), .lit (.int .u8 0)], .agg [.lit (.int .u8 0), .lit (.int .u8 0)]]
/-- One of Go's own tables, pinned by name: the form's constant. -/
def laid_unicode_utf8_first : DataW Unit := Go.Pinned.utf8First

/-- 'laws.FnExactRainText': WHATEVER THE INPUT: true; the input reads as it did. -/
def fnExactRainTextSpec : ChangeSpec := { name := "fnExactRainText", fn := fun _ => fun
  | [d] => { results := [.lit (.bool true)], args := [d] }
  | _ => none }
def fnExactRainTextRow : OpenClaim := { program := "ytcdpgdpabmlpdaadoor", sum := "f53b7d7a7c2aad185a24634eb3162683e9a743a90d3e296529355cdee156810e", func := "loop.example/g01032/laws.FnExactRainText", spec := "fnExactRainText", named := ["internal/strconv.uint64pow10", "math/bits.deBruijn32tab", "math/bits.deBruijn64tab"], apart := false, laid := [("math/bits.deBruijn32tab", laid_math_bits_deBruijn32tab), ("math/bits.deBruijn64tab", laid_math_bits_deBruijn64tab), ("internal/strconv.uint64pow10", laid_internal_strconv_uint64pow10)] }
def FnExactRainTextSaid : Prop := fnExactRainTextRow.holds Tryd.pinned (OpenSpec.ofChange fnExactRainTextSpec)

/-- ITS FALSE NEIGHBOUR: 'it returns false'. Refute it at one input. -/
def fnExactRainTextWrong : ChangeSpec := { name := "fnExactRainText", fn := fun _ => fun
  | [d] => { results := [.lit (.bool false)], args := [d] }
  | _ => none }
def FnExactRainTextWrongFalsely : Prop := fnExactRainTextRow.holds Tryd.pinned (OpenSpec.ofChange fnExactRainTextWrong)

/-- 'laws.FnExactMillText': WHATEVER THE INPUT: true; the input reads as it did. -/
def fnExactMillTextSpec : ChangeSpec := { name := "fnExactMillText", fn := fun _ => fun
  | [d] => { results := [.lit (.bool true)], args := [d] }
  | _ => none }
def fnExactMillTextRow : OpenClaim := { program := "ytcdpgdpabmlpdaadoor", sum := "f53b7d7a7c2aad185a24634eb3162683e9a743a90d3e296529355cdee156810e", func := "loop.example/g01032/laws.FnExactMillText", spec := "fnExactMillText", named := ["internal/strconv.uint64pow10", "math/bits.deBruijn32tab", "math/bits.deBruijn64tab"], apart := false, laid := [("math/bits.deBruijn32tab", laid_math_bits_deBruijn32tab), ("math/bits.deBruijn64tab", laid_math_bits_deBruijn64tab), ("internal/strconv.uint64pow10", laid_internal_strconv_uint64pow10)] }
def FnExactMillTextSaid : Prop := fnExactMillTextRow.holds Tryd.pinned (OpenSpec.ofChange fnExactMillTextSpec)

/-- ITS FALSE NEIGHBOUR: 'it returns false'. Refute it at one input. -/
def fnExactMillTextWrong : ChangeSpec := { name := "fnExactMillText", fn := fun _ => fun
  | [d] => { results := [.lit (.bool false)], args := [d] }
  | _ => none }
def FnExactMillTextWrongFalsely : Prop := fnExactMillTextRow.holds Tryd.pinned (OpenSpec.ofChange fnExactMillTextWrong)

/-- 'laws.FnExactGateText': WHATEVER THE INPUT: true; the input reads as it did. -/
def fnExactGateTextSpec : ChangeSpec := { name := "fnExactGateText", fn := fun _ => fun
  | [d] => { results := [.lit (.bool true)], args := [d] }
  | _ => none }
def fnExactGateTextRow : OpenClaim := { program := "ytcdpgdpabmlpdaadoor", sum := "f53b7d7a7c2aad185a24634eb3162683e9a743a90d3e296529355cdee156810e", func := "loop.example/g01032/laws.FnExactGateText", spec := "fnExactGateText", named := ["internal/strconv.uint64pow10", "math/bits.deBruijn32tab", "math/bits.deBruijn64tab"], apart := false, laid := [("math/bits.deBruijn32tab", laid_math_bits_deBruijn32tab), ("math/bits.deBruijn64tab", laid_math_bits_deBruijn64tab), ("internal/strconv.uint64pow10", laid_internal_strconv_uint64pow10)] }
def FnExactGateTextSaid : Prop := fnExactGateTextRow.holds Tryd.pinned (OpenSpec.ofChange fnExactGateTextSpec)

/-- ITS FALSE NEIGHBOUR: 'it returns false'. Refute it at one input. -/
def fnExactGateTextWrong : ChangeSpec := { name := "fnExactGateText", fn := fun _ => fun
  | [d] => { results := [.lit (.bool false)], args := [d] }
  | _ => none }
def FnExactGateTextWrongFalsely : Prop := fnExactGateTextRow.holds Tryd.pinned (OpenSpec.ofChange fnExactGateTextWrong)

/-- 'laws.FnExactDikeText': WHATEVER THE INPUT: true; the input reads as it did. -/
def fnExactDikeTextSpec : ChangeSpec := { name := "fnExactDikeText", fn := fun _ => fun
  | [d] => { results := [.lit (.bool true)], args := [d] }
  | _ => none }
def fnExactDikeTextRow : OpenClaim := { program := "ytcdpgdpabmlpdaadoor", sum := "f53b7d7a7c2aad185a24634eb3162683e9a743a90d3e296529355cdee156810e", func := "loop.example/g01032/laws.FnExactDikeText", spec := "fnExactDikeText", unfollowed := true, recurses := true, named := ["internal/strconv.uint64pow10", "math/bits.deBruijn32tab", "math/bits.deBruijn64tab"], apart := false, laid := [("math/bits.deBruijn32tab", laid_math_bits_deBruijn32tab), ("math/bits.deBruijn64tab", laid_math_bits_deBruijn64tab), ("internal/strconv.uint64pow10", laid_internal_strconv_uint64pow10)] }
def FnExactDikeTextSaid : Prop := fnExactDikeTextRow.holds Tryd.pinned (OpenSpec.ofChange fnExactDikeTextSpec)

/-- ITS FALSE NEIGHBOUR: 'it returns false'. Refute it at one input. -/
def fnExactDikeTextWrong : ChangeSpec := { name := "fnExactDikeText", fn := fun _ => fun
  | [d] => { results := [.lit (.bool false)], args := [d] }
  | _ => none }
def FnExactDikeTextWrongFalsely : Prop := fnExactDikeTextRow.holds Tryd.pinned (OpenSpec.ofChange fnExactDikeTextWrong)

/-- 'laws.FnExactTidesText': WHATEVER THE INPUT: true; the input reads as it did. -/
def fnExactTidesTextSpec : ChangeSpec := { name := "fnExactTidesText", fn := fun _ => fun
  | [d] => { results := [.lit (.bool true)], args := [d] }
  | _ => none }
def fnExactTidesTextRow : OpenClaim := { program := "ytcdpgdpabmlpdaadoor", sum := "f53b7d7a7c2aad185a24634eb3162683e9a743a90d3e296529355cdee156810e", func := "loop.example/g01032/laws.FnExactTidesText", spec := "fnExactTidesText", unfollowed := true, recurses := true, named := ["internal/strconv.uint64pow10", "math/bits.deBruijn32tab", "math/bits.deBruijn64tab"], apart := false, laid := [("math/bits.deBruijn32tab", laid_math_bits_deBruijn32tab), ("math/bits.deBruijn64tab", laid_math_bits_deBruijn64tab), ("internal/strconv.uint64pow10", laid_internal_strconv_uint64pow10)] }
def FnExactTidesTextSaid : Prop := fnExactTidesTextRow.holds Tryd.pinned (OpenSpec.ofChange fnExactTidesTextSpec)

/-- ITS FALSE NEIGHBOUR: 'it returns false'. Refute it at one input. -/
def fnExactTidesTextWrong : ChangeSpec := { name := "fnExactTidesText", fn := fun _ => fun
  | [d] => { results := [.lit (.bool false)], args := [d] }
  | _ => none }
def FnExactTidesTextWrongFalsely : Prop := fnExactTidesTextRow.holds Tryd.pinned (OpenSpec.ofChange fnExactTidesTextWrong)

/-- 'laws.FnExactReadRain': WHATEVER THE INPUT: true; the input reads as it did. -/
def fnExactReadRainSpec : ChangeSpec := { name := "fnExactReadRain", fn := fun _ => fun
  | [d] => { results := [.lit (.bool true)], args := [d] }
  | _ => none }
def fnExactReadRainRow : OpenClaim := { program := "ytcdpgdpabmlpdaadoor", sum := "f53b7d7a7c2aad185a24634eb3162683e9a743a90d3e296529355cdee156810e", func := "loop.example/g01032/laws.FnExactReadRain", spec := "fnExactReadRain", unfollowed := true, recurses := true, named := ["strconv.ErrSyntax", "strconv.ErrRange", "internal/strconv.uint64pow10", "math/bits.deBruijn32tab", "math/bits.deBruijn64tab"], apart := false, laid := [("math/bits.deBruijn32tab", laid_math_bits_deBruijn32tab), ("math/bits.deBruijn64tab", laid_math_bits_deBruijn64tab), ("internal/strconv.uint64pow10", laid_internal_strconv_uint64pow10), ("strconv.ErrRange", laid_strconv_ErrRange), ("strconv.ErrSyntax", laid_strconv_ErrSyntax)] }
def FnExactReadRainSaid : Prop := fnExactReadRainRow.holds Tryd.pinned (OpenSpec.ofChange fnExactReadRainSpec)

/-- ITS FALSE NEIGHBOUR: 'it returns false'. Refute it at one input. -/
def fnExactReadRainWrong : ChangeSpec := { name := "fnExactReadRain", fn := fun _ => fun
  | [d] => { results := [.lit (.bool false)], args := [d] }
  | _ => none }
def FnExactReadRainWrongFalsely : Prop := fnExactReadRainRow.holds Tryd.pinned (OpenSpec.ofChange fnExactReadRainWrong)

/-- 'laws.FnExactReadDike': WHATEVER THE INPUT: true; the input reads as it did. -/
def fnExactReadDikeSpec : ChangeSpec := { name := "fnExactReadDike", fn := fun _ => fun
  | [d] => { results := [.lit (.bool true)], args := [d] }
  | _ => none }
def fnExactReadDikeRow : OpenClaim := { program := "ytcdpgdpabmlpdaadoor", sum := "f53b7d7a7c2aad185a24634eb3162683e9a743a90d3e296529355cdee156810e", func := "loop.example/g01032/laws.FnExactReadDike", spec := "fnExactReadDike", unfollowed := true, recurses := true, named := ["strconv.ErrSyntax", "strconv.ErrRange", "internal/strconv.uint64pow10", "math/bits.deBruijn32tab", "math/bits.deBruijn64tab"], apart := false, laid := [("math/bits.deBruijn32tab", laid_math_bits_deBruijn32tab), ("math/bits.deBruijn64tab", laid_math_bits_deBruijn64tab), ("internal/strconv.uint64pow10", laid_internal_strconv_uint64pow10), ("strconv.ErrRange", laid_strconv_ErrRange), ("strconv.ErrSyntax", laid_strconv_ErrSyntax)] }
def FnExactReadDikeSaid : Prop := fnExactReadDikeRow.holds Tryd.pinned (OpenSpec.ofChange fnExactReadDikeSpec)

/-- ITS FALSE NEIGHBOUR: 'it returns false'. Refute it at one input. -/
def fnExactReadDikeWrong : ChangeSpec := { name := "fnExactReadDike", fn := fun _ => fun
  | [d] => { results := [.lit (.bool false)], args := [d] }
  | _ => none }
def FnExactReadDikeWrongFalsely : Prop := fnExactReadDikeRow.holds Tryd.pinned (OpenSpec.ofChange fnExactReadDikeWrong)

/-- 'laws.FnExactReadTides': WHATEVER THE INPUT: true; the input reads as it did. -/
def fnExactReadTidesSpec : ChangeSpec := { name := "fnExactReadTides", fn := fun _ => fun
  | [d] => { results := [.lit (.bool true)], args := [d] }
  | _ => none }
def fnExactReadTidesRow : OpenClaim := { program := "ytcdpgdpabmlpdaadoor", sum := "f53b7d7a7c2aad185a24634eb3162683e9a743a90d3e296529355cdee156810e", func := "loop.example/g01032/laws.FnExactReadTides", spec := "fnExactReadTides", unfollowed := true, recurses := true, named := ["strconv.ErrSyntax", "strconv.ErrRange", "internal/strconv.uint64pow10", "math/bits.deBruijn32tab", "math/bits.deBruijn64tab"], apart := false, laid := [("math/bits.deBruijn32tab", laid_math_bits_deBruijn32tab), ("math/bits.deBruijn64tab", laid_math_bits_deBruijn64tab), ("internal/strconv.uint64pow10", laid_internal_strconv_uint64pow10), ("strconv.ErrRange", laid_strconv_ErrRange), ("strconv.ErrSyntax", laid_strconv_ErrSyntax)] }
def FnExactReadTidesSaid : Prop := fnExactReadTidesRow.holds Tryd.pinned (OpenSpec.ofChange fnExactReadTidesSpec)

/-- ITS FALSE NEIGHBOUR: 'it returns false'. Refute it at one input. -/
def fnExactReadTidesWrong : ChangeSpec := { name := "fnExactReadTides", fn := fun _ => fun
  | [d] => { results := [.lit (.bool false)], args := [d] }
  | _ => none }
def FnExactReadTidesWrongFalsely : Prop := fnExactReadTidesRow.holds Tryd.pinned (OpenSpec.ofChange fnExactReadTidesWrong)

/-- 'laws.FnExactReadMill': WHATEVER THE INPUT: true; the input reads as it did. -/
def fnExactReadMillSpec : ChangeSpec := { name := "fnExactReadMill", fn := fun _ => fun
  | [d] => { results := [.lit (.bool true)], args := [d] }
  | _ => none }
def fnExactReadMillRow : OpenClaim := { program := "ytcdpgdpabmlpdaadoor", sum := "f53b7d7a7c2aad185a24634eb3162683e9a743a90d3e296529355cdee156810e", func := "loop.example/g01032/laws.FnExactReadMill", spec := "fnExactReadMill", inPlace := ["internal/bytealg.CountString", "internal/bytealg.IndexByteString", "internal/bytealg.IndexString", "internal/abi.NoEscape", "internal/bytealg.MakeNoZero"], unfollowed := true, recurses := true, named := ["internal/bytealg.MaxLen", "unicode/utf8.first", "unicode/utf8.acceptRanges", "strconv.ErrSyntax", "strconv.ErrRange", "internal/strconv.uint64pow10", "math/bits.deBruijn32tab", "math/bits.deBruijn64tab"], apart := false, laid := [("math/bits.deBruijn32tab", laid_math_bits_deBruijn32tab), ("math/bits.deBruijn64tab", laid_math_bits_deBruijn64tab), ("internal/strconv.uint64pow10", laid_internal_strconv_uint64pow10), ("unicode/utf8.acceptRanges", laid_unicode_utf8_acceptRanges), ("strconv.ErrRange", laid_strconv_ErrRange), ("strconv.ErrSyntax", laid_strconv_ErrSyntax), ("unicode/utf8.first", laid_unicode_utf8_first)] }
def FnExactReadMillSaid : Prop := fnExactReadMillRow.holds Tryd.pinned (OpenSpec.ofChange fnExactReadMillSpec)

/-- ITS FALSE NEIGHBOUR: 'it returns false'. Refute it at one input. -/
def fnExactReadMillWrong : ChangeSpec := { name := "fnExactReadMill", fn := fun _ => fun
  | [d] => { results := [.lit (.bool false)], args := [d] }
  | _ => none }
def FnExactReadMillWrongFalsely : Prop := fnExactReadMillRow.holds Tryd.pinned (OpenSpec.ofChange fnExactReadMillWrong)

/- THE SECOND FORM. 'bulk': how many values and letters a reading holds, each counted each time it is reached (what is shared counts as often as it is met; a slice's spare places count too). A statement '..UptoSaid' is the law's where the arguments, and the package variables that the reading takes, are together of bulk at most 1048576: NARROWER than '..Said'. Prove '..Said' where nothing that the law and all that it calls make is longer than what came in: it says more and counts as full. Else prove '..UptoSaid'. A law counts once. -/
mutual
def uptoBulk {H : Type} : DataW H → Nat
  | .lit (.string bytes) => bytes.length + 1
  | .lit _ => 1
  | .nil => 1
  | .ptr d => uptoBulk d + 1
  | .slice elems spare => uptoBulkAll elems + uptoBulkAll spare + 1
  | .agg parts => uptoBulkAll parts + 1
  | .iface _ d => uptoBulk d + 1
  | .map entries => uptoBulkEntries entries + 1
  | .held _ => 1
def uptoBulkAll {H : Type} : List (DataW H) → Nat
  | [] => 0
  | d :: r => uptoBulk d + uptoBulkAll r
def uptoBulkEntries {H : Type} : List (Lit × DataW H) → Nat
  | [] => 0
  | x :: r => uptoBulkEntry x + uptoBulkEntries r
def uptoBulkEntry {H : Type} : Lit × DataW H → Nat
  | (.string bytes, d) => bytes.length + uptoBulk d + 1
  | (_, d) => uptoBulk d + 1
 end
def uptoSmall : (H : Type) → List (DataW H) → Bool := fun _ ds => decide (uptoBulkAll ds ≤ 1048576)
def OpenSpec.upto (s : _root_.Go.ChangeSpec) : _root_.Go.OpenSpec := { _root_.Go.OpenSpec.ofChange s with cond := some uptoSmall }

/-- 'laws.FnExactRainText', WHERE WHAT IT READS IS OF BULK AT MOST 1048576: true; the input reads as it did. -/
def fnExactRainTextUptoRow : OpenClaim := { program := "ytcdpgdpabmlpdaadoor", sum := "f53b7d7a7c2aad185a24634eb3162683e9a743a90d3e296529355cdee156810e", func := "loop.example/g01032/laws.FnExactRainText", spec := "fnExactRainText", named := ["internal/strconv.uint64pow10", "math/bits.deBruijn32tab", "math/bits.deBruijn64tab"], apart := false, laid := [("math/bits.deBruijn32tab", laid_math_bits_deBruijn32tab), ("math/bits.deBruijn64tab", laid_math_bits_deBruijn64tab), ("internal/strconv.uint64pow10", laid_internal_strconv_uint64pow10)], narrowed := true }
def FnExactRainTextUptoSaid : Prop := fnExactRainTextUptoRow.holds Tryd.pinned (OpenSpec.upto fnExactRainTextSpec)

/-- 'laws.FnExactMillText', WHERE WHAT IT READS IS OF BULK AT MOST 1048576: true; the input reads as it did. -/
def fnExactMillTextUptoRow : OpenClaim := { program := "ytcdpgdpabmlpdaadoor", sum := "f53b7d7a7c2aad185a24634eb3162683e9a743a90d3e296529355cdee156810e", func := "loop.example/g01032/laws.FnExactMillText", spec := "fnExactMillText", named := ["internal/strconv.uint64pow10", "math/bits.deBruijn32tab", "math/bits.deBruijn64tab"], apart := false, laid := [("math/bits.deBruijn32tab", laid_math_bits_deBruijn32tab), ("math/bits.deBruijn64tab", laid_math_bits_deBruijn64tab), ("internal/strconv.uint64pow10", laid_internal_strconv_uint64pow10)], narrowed := true }
def FnExactMillTextUptoSaid : Prop := fnExactMillTextUptoRow.holds Tryd.pinned (OpenSpec.upto fnExactMillTextSpec)

/-- 'laws.FnExactGateText', WHERE WHAT IT READS IS OF BULK AT MOST 1048576: true; the input reads as it did. -/
def fnExactGateTextUptoRow : OpenClaim := { program := "ytcdpgdpabmlpdaadoor", sum := "f53b7d7a7c2aad185a24634eb3162683e9a743a90d3e296529355cdee156810e", func := "loop.example/g01032/laws.FnExactGateText", spec := "fnExactGateText", named := ["internal/strconv.uint64pow10", "math/bits.deBruijn32tab", "math/bits.deBruijn64tab"], apart := false, laid := [("math/bits.deBruijn32tab", laid_math_bits_deBruijn32tab), ("math/bits.deBruijn64tab", laid_math_bits_deBruijn64tab), ("internal/strconv.uint64pow10", laid_internal_strconv_uint64pow10)], narrowed := true }
def FnExactGateTextUptoSaid : Prop := fnExactGateTextUptoRow.holds Tryd.pinned (OpenSpec.upto fnExactGateTextSpec)

/-- 'laws.FnExactDikeText', WHERE WHAT IT READS IS OF BULK AT MOST 1048576: true; the input reads as it did. -/
def fnExactDikeTextUptoRow : OpenClaim := { program := "ytcdpgdpabmlpdaadoor", sum := "f53b7d7a7c2aad185a24634eb3162683e9a743a90d3e296529355cdee156810e", func := "loop.example/g01032/laws.FnExactDikeText", spec := "fnExactDikeText", unfollowed := true, recurses := true, named := ["internal/strconv.uint64pow10", "math/bits.deBruijn32tab", "math/bits.deBruijn64tab"], apart := false, laid := [("math/bits.deBruijn32tab", laid_math_bits_deBruijn32tab), ("math/bits.deBruijn64tab", laid_math_bits_deBruijn64tab), ("internal/strconv.uint64pow10", laid_internal_strconv_uint64pow10)], narrowed := true }
def FnExactDikeTextUptoSaid : Prop := fnExactDikeTextUptoRow.holds Tryd.pinned (OpenSpec.upto fnExactDikeTextSpec)

/-- 'laws.FnExactTidesText', WHERE WHAT IT READS IS OF BULK AT MOST 1048576: true; the input reads as it did. -/
def fnExactTidesTextUptoRow : OpenClaim := { program := "ytcdpgdpabmlpdaadoor", sum := "f53b7d7a7c2aad185a24634eb3162683e9a743a90d3e296529355cdee156810e", func := "loop.example/g01032/laws.FnExactTidesText", spec := "fnExactTidesText", unfollowed := true, recurses := true, named := ["internal/strconv.uint64pow10", "math/bits.deBruijn32tab", "math/bits.deBruijn64tab"], apart := false, laid := [("math/bits.deBruijn32tab", laid_math_bits_deBruijn32tab), ("math/bits.deBruijn64tab", laid_math_bits_deBruijn64tab), ("internal/strconv.uint64pow10", laid_internal_strconv_uint64pow10)], narrowed := true }
def FnExactTidesTextUptoSaid : Prop := fnExactTidesTextUptoRow.holds Tryd.pinned (OpenSpec.upto fnExactTidesTextSpec)

/-- 'laws.FnExactReadRain', WHERE WHAT IT READS IS OF BULK AT MOST 1048576: true; the input reads as it did. -/
def fnExactReadRainUptoRow : OpenClaim := { program := "ytcdpgdpabmlpdaadoor", sum := "f53b7d7a7c2aad185a24634eb3162683e9a743a90d3e296529355cdee156810e", func := "loop.example/g01032/laws.FnExactReadRain", spec := "fnExactReadRain", unfollowed := true, recurses := true, named := ["strconv.ErrSyntax", "strconv.ErrRange", "internal/strconv.uint64pow10", "math/bits.deBruijn32tab", "math/bits.deBruijn64tab"], apart := false, laid := [("math/bits.deBruijn32tab", laid_math_bits_deBruijn32tab), ("math/bits.deBruijn64tab", laid_math_bits_deBruijn64tab), ("internal/strconv.uint64pow10", laid_internal_strconv_uint64pow10), ("strconv.ErrRange", laid_strconv_ErrRange), ("strconv.ErrSyntax", laid_strconv_ErrSyntax)], narrowed := true }
def FnExactReadRainUptoSaid : Prop := fnExactReadRainUptoRow.holds Tryd.pinned (OpenSpec.upto fnExactReadRainSpec)

/-- 'laws.FnExactReadDike', WHERE WHAT IT READS IS OF BULK AT MOST 1048576: true; the input reads as it did. -/
def fnExactReadDikeUptoRow : OpenClaim := { program := "ytcdpgdpabmlpdaadoor", sum := "f53b7d7a7c2aad185a24634eb3162683e9a743a90d3e296529355cdee156810e", func := "loop.example/g01032/laws.FnExactReadDike", spec := "fnExactReadDike", unfollowed := true, recurses := true, named := ["strconv.ErrSyntax", "strconv.ErrRange", "internal/strconv.uint64pow10", "math/bits.deBruijn32tab", "math/bits.deBruijn64tab"], apart := false, laid := [("math/bits.deBruijn32tab", laid_math_bits_deBruijn32tab), ("math/bits.deBruijn64tab", laid_math_bits_deBruijn64tab), ("internal/strconv.uint64pow10", laid_internal_strconv_uint64pow10), ("strconv.ErrRange", laid_strconv_ErrRange), ("strconv.ErrSyntax", laid_strconv_ErrSyntax)], narrowed := true }
def FnExactReadDikeUptoSaid : Prop := fnExactReadDikeUptoRow.holds Tryd.pinned (OpenSpec.upto fnExactReadDikeSpec)

/-- 'laws.FnExactReadTides', WHERE WHAT IT READS IS OF BULK AT MOST 1048576: true; the input reads as it did. -/
def fnExactReadTidesUptoRow : OpenClaim := { program := "ytcdpgdpabmlpdaadoor", sum := "f53b7d7a7c2aad185a24634eb3162683e9a743a90d3e296529355cdee156810e", func := "loop.example/g01032/laws.FnExactReadTides", spec := "fnExactReadTides", unfollowed := true, recurses := true, named := ["strconv.ErrSyntax", "strconv.ErrRange", "internal/strconv.uint64pow10", "math/bits.deBruijn32tab", "math/bits.deBruijn64tab"], apart := false, laid := [("math/bits.deBruijn32tab", laid_math_bits_deBruijn32tab), ("math/bits.deBruijn64tab", laid_math_bits_deBruijn64tab), ("internal/strconv.uint64pow10", laid_internal_strconv_uint64pow10), ("strconv.ErrRange", laid_strconv_ErrRange), ("strconv.ErrSyntax", laid_strconv_ErrSyntax)], narrowed := true }
def FnExactReadTidesUptoSaid : Prop := fnExactReadTidesUptoRow.holds Tryd.pinned (OpenSpec.upto fnExactReadTidesSpec)

/-- 'laws.FnExactReadMill', WHERE WHAT IT READS IS OF BULK AT MOST 1048576: true; the input reads as it did. -/
def fnExactReadMillUptoRow : OpenClaim := { program := "ytcdpgdpabmlpdaadoor", sum := "f53b7d7a7c2aad185a24634eb3162683e9a743a90d3e296529355cdee156810e", func := "loop.example/g01032/laws.FnExactReadMill", spec := "fnExactReadMill", inPlace := ["internal/bytealg.CountString", "internal/bytealg.IndexByteString", "internal/bytealg.IndexString", "internal/abi.NoEscape", "internal/bytealg.MakeNoZero"], unfollowed := true, recurses := true, named := ["internal/bytealg.MaxLen", "unicode/utf8.first", "unicode/utf8.acceptRanges", "strconv.ErrSyntax", "strconv.ErrRange", "internal/strconv.uint64pow10", "math/bits.deBruijn32tab", "math/bits.deBruijn64tab"], apart := false, laid := [("math/bits.deBruijn32tab", laid_math_bits_deBruijn32tab), ("math/bits.deBruijn64tab", laid_math_bits_deBruijn64tab), ("internal/strconv.uint64pow10", laid_internal_strconv_uint64pow10), ("unicode/utf8.acceptRanges", laid_unicode_utf8_acceptRanges), ("strconv.ErrRange", laid_strconv_ErrRange), ("strconv.ErrSyntax", laid_strconv_ErrSyntax), ("unicode/utf8.first", laid_unicode_utf8_first)], narrowed := true }
def FnExactReadMillUptoSaid : Prop := fnExactReadMillUptoRow.holds Tryd.pinned (OpenSpec.upto fnExactReadMillSpec)

end Rows
end Go.Proofs.YtcdpgdpabmlpdaaDoor
