/-
  NARROWER THAN 'FOR EVERY INPUT', by the rows' own cells (each row's printed sentence says how): FnActsApart: laid · FnExactCallLine: laid · FnExactActLine: laid · FnExactTxLines: laid · FnWordsBack: laid · FnExactReadCall: laid · FnExactReadAct: laid.
  DERIVED. THE GIVEN ROWS OF THIS SEAT. 7 by the template 'for every input the law returns true; each argument reads behind the call as it read before'; 0 by the template 'total and deterministic' (their statements: YtmjjcihoobnbgaaDoorTotals.lean).
  GIVEN WITH THE SEED: the statements are not yours to turn. If you find one false, say at which input.
  Laid BY PROGRAM, IN A SANDBOX (cutbox-rows.mjs): the forced cells as the released guide's own fill.sh prints them over the translation 620c591970c3321c… (all of the seat's roots in one cut). By AI agents, Wed Nov 11 2026. No macro, syntax, notation, axiom, sorry.
-/
import Derived.Test.YtmjjcihoobnbgaaDoorChecked
import GoSem.Claim
import GoSem.ClaimJoined
import GoSem.ClaimMapViews
import Derived.JoinedTies
import Derived.KernelRfl
namespace Go.Proofs.YtmjjcihoobnbgaaDoor
/- THE CELL 'sum', in the pinned program and in every row, IS THE sha256 OF THE DUMP (.gsa) THAT YtmjjcihoobnbgaaDoorProg.lean LOADS. Nothing in Lean hashes anything: it is a label: what it is worth is what the hold of that sum in a sandbox is worth. -/
noncomputable def Tryd.pinned : Pinned := { name := "ytmjjcihoobnbgaadoor", sum := "620c591970c3321cbebf958d8a35dfed155b6a2f73a6c52c883bbad596f9c84d", checked := Tryd.checked }
namespace Rows
def none {H : Type} : Left H := { results := [], args := [] }

/- WHAT THE LISTED PACKAGE-LEVEL VARIABLES READ AS WHEN THE CALL BEGINS. Each datum BY PROGRAM (the guide's laid-datum.mjs) off the statement by which the dump's own 'gosem.cut.vars' lays the variable. In a bare row this is a premise. The card (YtmjjcihoobnbgaaDoorCards.lean) ties it to the program's text. -/
def laid_math_bits_deBruijn32tab {H : Type} : DataW H := .agg [.lit (.int .u8 0), .lit (.int .u8 1), .lit (.int .u8 28), .lit (.int .u8 2), .lit (.int .u8 29), .lit (.int .u8 14), .lit (.int .u8 24), .lit (.int .u8 3), .lit (.int .u8 30), .lit (.int .u8 22), .lit (.int .u8 20), .lit (.int .u8 15), .lit (.int .u8 25), .lit (.int .u8 17), .lit (.int .u8 4), .lit (.int .u8 8), .lit (.int .u8 31), .lit (.int .u8 27), .lit (.int .u8 13), .lit (.int .u8 23), .lit (.int .u8 21), .lit (.int .u8 19), .lit (.int .u8 16), .lit (.int .u8 7), .lit (.int .u8 26), .lit (.int .u8 12), .lit (.int .u8 18), .lit (.int .u8 6), .lit (.int .u8 11), .lit (.int .u8 5), .lit (.int .u8 10), .lit (.int .u8 9)]
def laid_math_bits_deBruijn64tab {H : Type} : DataW H := .agg [.lit (.int .u8 0), .lit (.int .u8 1), .lit (.int .u8 56), .lit (.int .u8 2), .lit (.int .u8 57), .lit (.int .u8 49), .lit (.int .u8 28), .lit (.int .u8 3), .lit (.int .u8 61), .lit (.int .u8 58), .lit (.int .u8 42), .lit (.int .u8 50), .lit (.int .u8 38), .lit (.int .u8 29), .lit (.int .u8 17), .lit (.int .u8 4), .lit (.int .u8 62), .lit (.int .u8 47), .lit (.int .u8 59), .lit (.int .u8 36), .lit (.int .u8 45), .lit (.int .u8 43), .lit (.int .u8 51), .lit (.int .u8 22), .lit (.int .u8 53), .lit (.int .u8 39), .lit (.int .u8 33), .lit (.int .u8 30), .lit (.int .u8 24), .lit (.int .u8 18), .lit (.int .u8 12), .lit (.int .u8 5), .lit (.int .u8 63), .lit (.int .u8 55), .lit (.int .u8 48), .lit (.int .u8 27), .lit (.int .u8 60), .lit (.int .u8 41), .lit (.int .u8 37), .lit (.int .u8 16), .lit (.int .u8 46), .lit (.int .u8 35), .lit (.int .u8 44), .lit (.int .u8 21), .lit (.int .u8 52), .lit (.int .u8 32), .lit (.int .u8 23), .lit (.int .u8 11), .lit (.int .u8 54), .lit (.int .u8 26), .lit (.int .u8 40), .lit (.int .u8 15), .lit (.int .u8 34), .lit (.int .u8 20), .lit (.int .u8 31), .lit (.int .u8 10), .lit (.int .u8 25), .lit (.int .u8 14), .lit (.int .u8 19), .lit (.int .u8 9), .lit (.int .u8 13), .lit (.int .u8 8), .lit (.int .u8 7), .lit (.int .u8 6)]
def laid_internal_strconv_uint64pow10 {H : Type} : DataW H := .agg [.lit (.int .u64 1), .lit (.int .u64 10), .lit (.int .u64 100), .lit (.int .u64 1000), .lit (.int .u64 10000), .lit (.int .u64 100000), .lit (.int .u64 1000000), .lit (.int .u64 10000000), .lit (.int .u64 100000000), .lit (.int .u64 1000000000), .lit (.int .u64 10000000000), .lit (.int .u64 100000000000), .lit (.int .u64 1000000000000), .lit (.int .u64 10000000000000), .lit (.int .u64 100000000000000), .lit (.int .u64 1000000000000000), .lit (.int .u64 10000000000000000), .lit (.int .u64 100000000000000000), .lit (.int .u64 1000000000000000000), .lit (.int .u64 10000000000000000000)]
def laid_loop_example_g00974_impl_callNames {H : Type} : DataW H := .agg [.lit (.string [109, 97, 107, 101]), .lit (.string [108, 105, 110, 107]), .lit (.string [117, 110, 108, 105, 110, 107]), .lit (.string [114, 101, 110, 97, 109, 101]), .lit (.string [110, 97, 109, 101, 115]), .lit (.string [114, 101, 97, 100]), .lit (.string [119, 114, 105, 116, 101]), .lit (.string [99, 117, 116]), .lit (.string [112, 105, 112, 101]), .lit (.string [112, 117, 116]), .lit (.string [116, 97, 107, 101]), .lit (.string [115, 112, 97, 119, 110]), .lit (.string [101, 110, 100]), .lit (.string [114, 101, 97, 112]), .lit (.string [107, 105, 100, 115]), .lit (.string [115, 101, 110, 100]), .lit (.string [115, 105, 103, 110, 97, 108]), .lit (.string [116, 105, 109, 101, 114]), .lit (.string [116, 105, 99, 107]), .lit (.string [115, 116, 111, 114, 101]), .lit (.string [108, 111, 97, 100]), .lit (.string [111, 117, 116])]
def laid_loop_example_g00974_impl_actNames {H : Type} : DataW H := .agg [.lit (.string [98, 101, 103, 105, 110]), .lit (.string [97, 115, 107]), .lit (.string [109, 97, 114, 107]), .lit (.string [98, 97, 99, 107]), .lit (.string [100, 114, 111, 112]), .lit (.string [99, 111, 109, 109, 105, 116]), .lit (.string [112, 108, 97, 105, 110]), .lit (.string [102, 108, 117, 115, 104]), .lit (.string [102, 111, 108, 100]), .lit (.string [102, 111, 108, 100, 101, 100]), .lit (.string [102, 97, 108, 108]), .lit (.string [114, 101, 116, 114, 121])]
def laid_strconv_ErrRange {H : Type} : DataW H := .iface "*errors.errorString" (.ptr (.agg [.lit (.string [118, 97, 108, 117, 101, 32, 111, 117, 116, 32, 111, 102, 32, 114, 97, 110, 103, 101])]))
def laid_strconv_ErrSyntax {H : Type} : DataW H := .iface "*errors.errorString" (.ptr (.agg [.lit (.string [105, 110, 118, 97, 108, 105, 100, 32, 115, 121, 110, 116, 97, 120])]))
def laid_unicode_White_Space {H : Type} : DataW H := .ptr (.agg [.slice [.agg [.lit (.int .u16 9), .lit (.int .u16 13), .lit (.int .u16 1)], .agg [.lit (.int .u16 32), .lit (.int .u16 133), .lit (.int .u16 101)], .agg [.lit (.int .u16 160), .lit (.int .u16 5760), .lit (.int .u16 5600)], .agg [.lit (.int .u16 8192), .lit (.int .u16 8202), .lit (.int .u16 1)], .agg [.lit (.int .u16 8232), .lit (.int .u16 8233), .lit (.int .u16 1)], .agg [.lit (.int .u16 8239), .lit (.int .u16 8287), .lit (.int .u16 48)], .agg [.lit (.int .u16 12288), .lit (.int .u16 12288), .lit (.int .u16 1)]] [], .nil, .lit (.int .i64 2)])
def laid_strings_asciiSpace {H : Type} : DataW H := .agg [.lit (.int .u8 0), .lit (.int .u8 0), .lit (.int .u8 0), .lit (.int .u8 0), .lit (.int .u8 0), .lit (.int .u8 0), .lit (.int .u8 0), .lit (.int .u8 0), .lit (.int .u8 0), .lit (.int .u8 1), .lit (.int .u8 1), .lit (.int .u8 1), .lit (.int .u8 1), .lit (.int .u8 1), .lit (.int .u8 0), .lit (.int .u8 0), .lit (.int .u8 0), .lit (.int .u8 0), .lit (.int .u8 0), .lit (.int .u8 0), .lit (.int .u8 0), .lit (.int .u8 0), .lit (.int .u8 0), .lit (.int .u8 0), .lit (.int .u8 0), .lit (.int .u8 0), .lit (.int .u8 0), .lit (.int .u8 0), .lit (.int .u8 0), .lit (.int .u8 0), .lit (.int .u8 0), .lit (.int .u8 0), .lit (.int .u8 1), .lit (.int .u8 0), .lit (.int .u8 0), .lit (.int .u8 0), .lit (.int .u8 0), .lit (.int .u8 0), .lit (.int .u8 0), .lit (.int .u8 0), .lit (.int .u8 0), .lit (.int .u8 0), .lit (.int .u8 0), .lit (.int .u8 0), .lit (.int .u8 0), .lit (.int .u8 0), .lit (.int .u8 0), .lit (.int .u8 0), .lit (.int .u8 0), .lit (.int .u8 0), .lit (.int .u8 0), .lit (.int .u8 0), .lit (.int .u8 0), .lit (.int .u8 0), .lit (.int .u8 0), .lit (.int .u8 0), .lit (.int .u8 0), .lit (.int .u8 0), .lit (.int .u8 0), .lit (.int .u8 0), .lit (.int .u8 0), .lit (.int .u8 0), .lit (.int .u8 0), .lit (.int .u8 0), .lit (.int .u8 0), .lit (.int .u8 0), .lit (.int .u8 0), .lit (.int .u8 0), .lit (.int .u8 0), .lit (.int .u8 0), .lit (.int .u8 0), .lit (.int .u8 0), .lit (.int .u8 0), .lit (.int .u8 0), .lit (.int .u8 0), .lit (.int .u8 0), .lit (.int .u8 0), .lit (.int .u8 0), .lit (.int .u8 0), .lit (.int .u8 0), .lit (.int .u8 0), .lit (.int .u8 0), .lit (.int .u8 0), .lit (.int .u8 0), .lit (.int .u8 0), .lit (.int .u8 0), .lit (.int .u8 0), .lit (.int .u8 0), .lit (.int .u8 0), .lit (.int .u8 0), .lit (.int .u8 0), .lit (.int .u8 0), .lit (.int .u8 0), .lit (.int .u8 0), .lit (.int .u8 0), .lit (.int .u8 0), .lit (.int .u8 0), .lit (.int .u8 0), .lit (.int .u8 0), .lit (.int .u8 0), .lit (.int .u8 0), .lit (.int .u8 0), .lit (.int .u8 0), .lit (.int .u8 0), .lit (.int .u8 0), .lit (.int .u8 0), .lit (.int .u8 0), .lit (.int .u8 0), .lit (.int .u8 0), .lit (.int .u8 0), .lit (.int .u8 0), .lit (.int .u8 0), .lit (.int .u8 0), .lit (.int .u8 0), .lit (.int .u8 0), .lit (.int .u8 0), .lit (.int .u8 0), .lit (.int .u8 0), .lit (.int .u8 0), .lit (.int .u8 0), .lit (.int .u8 0), .lit (.int .u8 0), .lit (.int .u8 0), .lit (.int .u8 0), .lit (.int .u8 0), .lit (.int .u8 0), .lit (.int .u8 0), .lit (.int .u8 0), .lit (.int .u8 0), .lit (.int .u8 0), .lit (.int .u8 0), .lit (.int .u8 0), .lit (.int .u8 0), .lit (.int .u8 0), .lit (.int .u8 0), .lit (.int .u8 0), .lit (.int .u8 0), .lit (.int .u8 0), .lit (.int .u8 0), .lit (.int .u8 0), .lit (.int .u8 0), .lit (.int .u8 0), .lit (.int .u8 0), .lit (.int .u8 0), .lit (.int .u8 0), .lit (.int .u8 0), .lit (.int .u8 0), .lit (.int .u8 0), .lit (.int .u8 0), .lit (.int .u8 0), .lit (.int .u8 0), .lit (.int .u8 0), .lit (.int .u8 0), .lit (.int .u8 0), .lit (.int .u8 0), .lit (.int .u8 0), .lit (.int .u8 0), .lit (.int .u8 0), .lit (.int .u8 0), .lit (.int .u8 0), .lit (.int .u8 0), .lit (.int .u8 0), .lit (.int .u8 0), .lit (.int .u8 0), .lit (.int .u8 0), .lit (.int .u8 0), .lit (.int .u8 0), .lit (.int .u8 0), .lit (.int .u8 0), .lit (.int .u8 0), .lit (.int .u8 0), .lit (.int .u8 0), .lit (.int .u8 0), .lit (.int .u8 0), .lit (.int .u8 0), .lit (.int .u8 0), .lit (.int .u8 0), .lit (.int .u8 0), .lit (.int .u8 0), .lit (.int .u8 0), .lit (.int .u8 0), .lit (.int .u8 0), .lit (.int .u8 0), .lit (.int .u8 0), .lit (.int .u8 0), .lit (.int .u8 0), .lit (.int .u8 0), .lit (.int .u8 0), .lit (.int .u8 0), .lit (.int .u8 0), .lit (.int .u8 0), .lit (.int .u8 0), .lit (.int .u8 0), .lit (.int .u8 0), .lit (.int .u8 0), .lit (.int .u8 0), .lit (.int .u8 0), .lit (.int .u8 0), .lit (.int .u8 0), .lit (.int .u8 0), .lit (.int .u8 0), .lit (.int .u8 0), .lit (.int .u8 0), .lit (.int .u8 0), .lit (.int .u8 0), .lit (.int .u8 0), .lit (.int .u8 0), .lit (.int .u8 0), .lit (.int .u8 0), .lit (.int .u8 0), .lit (.int .u8 0), .lit (.int .u8 0), .lit (.int .u8 0), .lit (.int .u8 0), .lit (.int .u8 0), .lit (.int .u8 0), .lit (.int .u8 0), .lit (.int .u8 0), .lit (.int .u8 0), .lit (.int .u8 0), .lit (.int .u8 0), .lit (.int .u8 0), .lit (.int .u8 0), .lit (.int .u8 0), .lit (.int .u8 0), .lit (.int .u8 0), .lit (.int .u8 0), .lit (.int .u8 0), .lit (.int .u8 0), .lit (.int .u8 0), .lit (.int .u8 0), .lit (.int .u8 0), .lit (.int .u8 0), .lit (.int .u8 0), .lit (.int .u8 0), .lit (.int .u8 0), .lit (.int .u8 0), .lit (.int .u8 0), .lit (.int .u8 0), .lit (.int .u8 0), .lit (.int .u8 0), .lit (.int .u8 0), .lit (.int .u8 0), .lit (.int .u8 0), .lit (.int .u8 0), .lit (.int .u8 0), .lit (.int .u8 0), .lit (.int .u8 0), .lit (.int .u8 0), .lit (.int .u8 0), .lit (.int .u8 0), .lit (.int .u8 0), .lit (.int .u8 0), .lit (.int .u8 0), .lit (.int .u8 0), .lit (.int .u8 0)]
def laid_encoding_hex_ErrLength {H : Type} : DataW H := .iface "*errors.errorString" (.ptr (.agg [.lit (.string [101, 110, 99, 111, 100, 105, 110, 103, 47, 104, 101, 120, 58, 32, 111, 100, 100, 32, 108, 101, 110, 103, 116, 104, 32, 104, 101, 120, 32, 115, 116, 114, 105, 110, 103])]))

/-- 'laws.FnActsApart': WHATEVER THE INPUT: true; the input reads as it did. -/
def fnActsApartSpec : ChangeSpec := { name := "fnActsApart", vars := ["loop.example/g00974/impl.actNames", "loop.example/g00974/impl.callNames"], fn := fun _ => fun
  | [d, g1, g2] => { results := [.lit (.bool true)], args := [d], vars := [g1, g2] }
  | _ => none }
def fnActsApartRow : OpenClaim := { program := "ytmjjcihoobnbgaadoor", sum := "620c591970c3321cbebf958d8a35dfed155b6a2f73a6c52c883bbad596f9c84d", func := "loop.example/g00974/laws.FnActsApart", spec := "fnActsApart", named := ["loop.example/g00974/impl.actNames", "loop.example/g00974/impl.callNames", "internal/strconv.uint64pow10", "math/bits.deBruijn32tab", "math/bits.deBruijn64tab"], apart := false, laid := [("math/bits.deBruijn32tab", laid_math_bits_deBruijn32tab), ("math/bits.deBruijn64tab", laid_math_bits_deBruijn64tab), ("internal/strconv.uint64pow10", laid_internal_strconv_uint64pow10), ("loop.example/g00974/impl.callNames", laid_loop_example_g00974_impl_callNames), ("loop.example/g00974/impl.actNames", laid_loop_example_g00974_impl_actNames)] }
def FnActsApartSaid : Prop := fnActsApartRow.holds Tryd.pinned (OpenSpec.ofChange fnActsApartSpec)

/-- ITS FALSE NEIGHBOUR: 'it returns false'. Refute it at one input. -/
def fnActsApartWrong : ChangeSpec := { name := "fnActsApart", vars := ["loop.example/g00974/impl.actNames", "loop.example/g00974/impl.callNames"], fn := fun _ => fun
  | [d, g1, g2] => { results := [.lit (.bool false)], args := [d], vars := [g1, g2] }
  | _ => none }
def FnActsApartWrongFalsely : Prop := fnActsApartRow.holds Tryd.pinned (OpenSpec.ofChange fnActsApartWrong)

/-- 'laws.FnExactCallLine': WHATEVER THE INPUT: true; the input reads as it did. -/
def fnExactCallLineSpec : ChangeSpec := { name := "fnExactCallLine", vars := ["loop.example/g00974/impl.callNames"], fn := fun _ => fun
  | [d, g1] => { results := [.lit (.bool true)], args := [d], vars := [g1] }
  | _ => none }
def fnExactCallLineRow : OpenClaim := { program := "ytmjjcihoobnbgaadoor", sum := "620c591970c3321cbebf958d8a35dfed155b6a2f73a6c52c883bbad596f9c84d", func := "loop.example/g00974/laws.FnExactCallLine", spec := "fnExactCallLine", named := ["loop.example/g00974/impl.callNames", "internal/strconv.uint64pow10", "math/bits.deBruijn32tab", "math/bits.deBruijn64tab"], apart := false, laid := [("math/bits.deBruijn32tab", laid_math_bits_deBruijn32tab), ("math/bits.deBruijn64tab", laid_math_bits_deBruijn64tab), ("internal/strconv.uint64pow10", laid_internal_strconv_uint64pow10), ("loop.example/g00974/impl.callNames", laid_loop_example_g00974_impl_callNames)] }
def FnExactCallLineSaid : Prop := fnExactCallLineRow.holds Tryd.pinned (OpenSpec.ofChange fnExactCallLineSpec)

/-- ITS FALSE NEIGHBOUR: 'it returns false'. Refute it at one input. -/
def fnExactCallLineWrong : ChangeSpec := { name := "fnExactCallLine", vars := ["loop.example/g00974/impl.callNames"], fn := fun _ => fun
  | [d, g1] => { results := [.lit (.bool false)], args := [d], vars := [g1] }
  | _ => none }
def FnExactCallLineWrongFalsely : Prop := fnExactCallLineRow.holds Tryd.pinned (OpenSpec.ofChange fnExactCallLineWrong)

/-- 'laws.FnExactActLine': WHATEVER THE INPUT: true; the input reads as it did. -/
def fnExactActLineSpec : ChangeSpec := { name := "fnExactActLine", vars := ["loop.example/g00974/impl.actNames", "loop.example/g00974/impl.callNames"], fn := fun _ => fun
  | [d, g1, g2] => { results := [.lit (.bool true)], args := [d], vars := [g1, g2] }
  | _ => none }
def fnExactActLineRow : OpenClaim := { program := "ytmjjcihoobnbgaadoor", sum := "620c591970c3321cbebf958d8a35dfed155b6a2f73a6c52c883bbad596f9c84d", func := "loop.example/g00974/laws.FnExactActLine", spec := "fnExactActLine", named := ["loop.example/g00974/impl.actNames", "internal/strconv.uint64pow10", "math/bits.deBruijn32tab", "math/bits.deBruijn64tab", "loop.example/g00974/impl.callNames"], apart := false, laid := [("math/bits.deBruijn32tab", laid_math_bits_deBruijn32tab), ("math/bits.deBruijn64tab", laid_math_bits_deBruijn64tab), ("internal/strconv.uint64pow10", laid_internal_strconv_uint64pow10), ("loop.example/g00974/impl.callNames", laid_loop_example_g00974_impl_callNames), ("loop.example/g00974/impl.actNames", laid_loop_example_g00974_impl_actNames)] }
def FnExactActLineSaid : Prop := fnExactActLineRow.holds Tryd.pinned (OpenSpec.ofChange fnExactActLineSpec)

/-- ITS FALSE NEIGHBOUR: 'it returns false'. Refute it at one input. -/
def fnExactActLineWrong : ChangeSpec := { name := "fnExactActLine", vars := ["loop.example/g00974/impl.actNames", "loop.example/g00974/impl.callNames"], fn := fun _ => fun
  | [d, g1, g2] => { results := [.lit (.bool false)], args := [d], vars := [g1, g2] }
  | _ => none }
def FnExactActLineWrongFalsely : Prop := fnExactActLineRow.holds Tryd.pinned (OpenSpec.ofChange fnExactActLineWrong)

/-- 'laws.FnExactTxLines': WHATEVER THE INPUT: true; the input reads as it did. -/
def fnExactTxLinesSpec : ChangeSpec := { name := "fnExactTxLines", fn := fun _ => fun
  | [d] => { results := [.lit (.bool true)], args := [d] }
  | _ => none }
def fnExactTxLinesRow : OpenClaim := { program := "ytmjjcihoobnbgaadoor", sum := "620c591970c3321cbebf958d8a35dfed155b6a2f73a6c52c883bbad596f9c84d", func := "loop.example/g00974/laws.FnExactTxLines", spec := "fnExactTxLines", inPlace := ["internal/abi.NoEscape", "internal/bytealg.MakeNoZero"], named := ["internal/strconv.uint64pow10", "math/bits.deBruijn32tab", "math/bits.deBruijn64tab"], apart := false, laid := [("math/bits.deBruijn32tab", laid_math_bits_deBruijn32tab), ("math/bits.deBruijn64tab", laid_math_bits_deBruijn64tab), ("internal/strconv.uint64pow10", laid_internal_strconv_uint64pow10)] }
def FnExactTxLinesSaid : Prop := fnExactTxLinesRow.holds Tryd.pinned (OpenSpec.ofChange fnExactTxLinesSpec)

/-- ITS FALSE NEIGHBOUR: 'it returns false'. Refute it at one input. -/
def fnExactTxLinesWrong : ChangeSpec := { name := "fnExactTxLines", fn := fun _ => fun
  | [d] => { results := [.lit (.bool false)], args := [d] }
  | _ => none }
def FnExactTxLinesWrongFalsely : Prop := fnExactTxLinesRow.holds Tryd.pinned (OpenSpec.ofChange fnExactTxLinesWrong)

/-- 'laws.FnWordsBack': WHATEVER THE INPUT: true; the input reads as it did. -/
def fnWordsBackSpec : ChangeSpec := { name := "fnWordsBack", vars := ["loop.example/g00974/impl.callNames"], fn := fun _ => fun
  | [d, g1] => { results := [.lit (.bool true)], args := [d], vars := [g1] }
  | _ => none }
def fnWordsBackRow : OpenClaim := { program := "ytmjjcihoobnbgaadoor", sum := "620c591970c3321cbebf958d8a35dfed155b6a2f73a6c52c883bbad596f9c84d", func := "loop.example/g00974/laws.FnWordsBack", spec := "fnWordsBack", unfollowed := true, recurses := true, named := ["loop.example/g00974/impl.callNames", "internal/strconv.uint64pow10", "math/bits.deBruijn32tab", "math/bits.deBruijn64tab", "strings.asciiSpace", "unicode.White_Space", "strconv.ErrSyntax", "strconv.ErrRange", "encoding/hex.ErrLength"], apart := false, laid := [("math/bits.deBruijn32tab", laid_math_bits_deBruijn32tab), ("math/bits.deBruijn64tab", laid_math_bits_deBruijn64tab), ("internal/strconv.uint64pow10", laid_internal_strconv_uint64pow10), ("strconv.ErrRange", laid_strconv_ErrRange), ("strconv.ErrSyntax", laid_strconv_ErrSyntax), ("unicode.White_Space", laid_unicode_White_Space), ("strings.asciiSpace", laid_strings_asciiSpace), ("encoding/hex.ErrLength", laid_encoding_hex_ErrLength), ("loop.example/g00974/impl.callNames", laid_loop_example_g00974_impl_callNames)] }
def FnWordsBackSaid : Prop := fnWordsBackRow.holds Tryd.pinned (OpenSpec.ofChange fnWordsBackSpec)

/-- ITS FALSE NEIGHBOUR: 'it returns false'. Refute it at one input. -/
def fnWordsBackWrong : ChangeSpec := { name := "fnWordsBack", vars := ["loop.example/g00974/impl.callNames"], fn := fun _ => fun
  | [d, g1] => { results := [.lit (.bool false)], args := [d], vars := [g1] }
  | _ => none }
def FnWordsBackWrongFalsely : Prop := fnWordsBackRow.holds Tryd.pinned (OpenSpec.ofChange fnWordsBackWrong)

/-- 'laws.FnExactReadCall': WHATEVER THE INPUT: true; the input reads as it did. -/
def fnExactReadCallSpec : ChangeSpec := { name := "fnExactReadCall", vars := ["loop.example/g00974/impl.callNames"], fn := fun _ => fun
  | [d, g1] => { results := [.lit (.bool true)], args := [d], vars := [g1] }
  | _ => none }
def fnExactReadCallRow : OpenClaim := { program := "ytmjjcihoobnbgaadoor", sum := "620c591970c3321cbebf958d8a35dfed155b6a2f73a6c52c883bbad596f9c84d", func := "loop.example/g00974/laws.FnExactReadCall", spec := "fnExactReadCall", unfollowed := true, recurses := true, named := ["loop.example/g00974/impl.callNames", "strconv.ErrSyntax", "strconv.ErrRange", "internal/strconv.uint64pow10", "math/bits.deBruijn32tab", "math/bits.deBruijn64tab", "encoding/hex.ErrLength", "strings.asciiSpace", "unicode.White_Space"], apart := false, laid := [("math/bits.deBruijn32tab", laid_math_bits_deBruijn32tab), ("math/bits.deBruijn64tab", laid_math_bits_deBruijn64tab), ("internal/strconv.uint64pow10", laid_internal_strconv_uint64pow10), ("strconv.ErrRange", laid_strconv_ErrRange), ("strconv.ErrSyntax", laid_strconv_ErrSyntax), ("unicode.White_Space", laid_unicode_White_Space), ("strings.asciiSpace", laid_strings_asciiSpace), ("encoding/hex.ErrLength", laid_encoding_hex_ErrLength), ("loop.example/g00974/impl.callNames", laid_loop_example_g00974_impl_callNames)] }
def FnExactReadCallSaid : Prop := fnExactReadCallRow.holds Tryd.pinned (OpenSpec.ofChange fnExactReadCallSpec)

/-- ITS FALSE NEIGHBOUR: 'it returns false'. Refute it at one input. -/
def fnExactReadCallWrong : ChangeSpec := { name := "fnExactReadCall", vars := ["loop.example/g00974/impl.callNames"], fn := fun _ => fun
  | [d, g1] => { results := [.lit (.bool false)], args := [d], vars := [g1] }
  | _ => none }
def FnExactReadCallWrongFalsely : Prop := fnExactReadCallRow.holds Tryd.pinned (OpenSpec.ofChange fnExactReadCallWrong)

/-- 'laws.FnExactReadAct': WHATEVER THE INPUT: true; the input reads as it did. -/
def fnExactReadActSpec : ChangeSpec := { name := "fnExactReadAct", vars := ["loop.example/g00974/impl.actNames", "loop.example/g00974/impl.callNames"], fn := fun _ => fun
  | [d, g1, g2] => { results := [.lit (.bool true)], args := [d], vars := [g1, g2] }
  | _ => none }
def fnExactReadActRow : OpenClaim := { program := "ytmjjcihoobnbgaadoor", sum := "620c591970c3321cbebf958d8a35dfed155b6a2f73a6c52c883bbad596f9c84d", func := "loop.example/g00974/laws.FnExactReadAct", spec := "fnExactReadAct", unfollowed := true, recurses := true, named := ["loop.example/g00974/impl.actNames", "strings.asciiSpace", "unicode.White_Space", "strconv.ErrSyntax", "strconv.ErrRange", "internal/strconv.uint64pow10", "math/bits.deBruijn32tab", "math/bits.deBruijn64tab", "loop.example/g00974/impl.callNames", "encoding/hex.ErrLength"], apart := false, laid := [("math/bits.deBruijn32tab", laid_math_bits_deBruijn32tab), ("math/bits.deBruijn64tab", laid_math_bits_deBruijn64tab), ("internal/strconv.uint64pow10", laid_internal_strconv_uint64pow10), ("strconv.ErrRange", laid_strconv_ErrRange), ("strconv.ErrSyntax", laid_strconv_ErrSyntax), ("unicode.White_Space", laid_unicode_White_Space), ("strings.asciiSpace", laid_strings_asciiSpace), ("encoding/hex.ErrLength", laid_encoding_hex_ErrLength), ("loop.example/g00974/impl.callNames", laid_loop_example_g00974_impl_callNames), ("loop.example/g00974/impl.actNames", laid_loop_example_g00974_impl_actNames)] }
def FnExactReadActSaid : Prop := fnExactReadActRow.holds Tryd.pinned (OpenSpec.ofChange fnExactReadActSpec)

/-- ITS FALSE NEIGHBOUR: 'it returns false'. Refute it at one input. -/
def fnExactReadActWrong : ChangeSpec := { name := "fnExactReadAct", vars := ["loop.example/g00974/impl.actNames", "loop.example/g00974/impl.callNames"], fn := fun _ => fun
  | [d, g1, g2] => { results := [.lit (.bool false)], args := [d], vars := [g1, g2] }
  | _ => none }
def FnExactReadActWrongFalsely : Prop := fnExactReadActRow.holds Tryd.pinned (OpenSpec.ofChange fnExactReadActWrong)

/- THE SECOND FORM. 'bulk': how many values and letters a reading holds, each counted each time it is reached (what is shared counts as often as it is met; a slice's spare places count too). A statement '..UptoSaid' is the law's where the arguments, and the package variables that the reading takes, are together of bulk at most 1048576: NARROWER than '..Said'. Prove '..Said' where nothing that the law and all that it calls make is longer than what came in: it says more and counts as full. Else prove '..UptoSaid'. A law counts once. -/
mutual
def uptoBulk {H : Type} : DataW H → Nat
  | .lit (.string bytes) => bytes.length + 1
  | .lit _ => 1
  | .nil => 1
  | .ptr d => uptoBulk d + 1
  | .slice elems spare => uptoBulkAll elems + uptoBulkAll spare + 1
  | .agg parts => uptoBulkAll parts + 1
  | .iface _ d => uptoBulk d + 1
  | .map entries => uptoBulkEntries entries + 1
  | .held _ => 1
def uptoBulkAll {H : Type} : List (DataW H) → Nat
  | [] => 0
  | d :: r => uptoBulk d + uptoBulkAll r
def uptoBulkEntries {H : Type} : List (Lit × DataW H) → Nat
  | [] => 0
  | x :: r => uptoBulkEntry x + uptoBulkEntries r
def uptoBulkEntry {H : Type} : Lit × DataW H → Nat
  | (.string bytes, d) => bytes.length + uptoBulk d + 1
  | (_, d) => uptoBulk d + 1
 end
def uptoSmall : (H : Type) → List (DataW H) → Bool := fun _ ds => decide (uptoBulkAll ds ≤ 1048576)
def OpenSpec.upto (s : _root_.Go.ChangeSpec) : _root_.Go.OpenSpec := { _root_.Go.OpenSpec.ofChange s with cond := some uptoSmall }

/-- 'laws.FnActsApart', WHERE WHAT IT READS IS OF BULK AT MOST 1048576: true; the input reads as it did. -/
def fnActsApartUptoRow : OpenClaim := { program := "ytmjjcihoobnbgaadoor", sum := "620c591970c3321cbebf958d8a35dfed155b6a2f73a6c52c883bbad596f9c84d", func := "loop.example/g00974/laws.FnActsApart", spec := "fnActsApart", named := ["loop.example/g00974/impl.actNames", "loop.example/g00974/impl.callNames", "internal/strconv.uint64pow10", "math/bits.deBruijn32tab", "math/bits.deBruijn64tab"], apart := false, laid := [("math/bits.deBruijn32tab", laid_math_bits_deBruijn32tab), ("math/bits.deBruijn64tab", laid_math_bits_deBruijn64tab), ("internal/strconv.uint64pow10", laid_internal_strconv_uint64pow10), ("loop.example/g00974/impl.callNames", laid_loop_example_g00974_impl_callNames), ("loop.example/g00974/impl.actNames", laid_loop_example_g00974_impl_actNames)], narrowed := true }
def FnActsApartUptoSaid : Prop := fnActsApartUptoRow.holds Tryd.pinned (OpenSpec.upto fnActsApartSpec)

/-- 'laws.FnExactCallLine', WHERE WHAT IT READS IS OF BULK AT MOST 1048576: true; the input reads as it did. -/
def fnExactCallLineUptoRow : OpenClaim := { program := "ytmjjcihoobnbgaadoor", sum := "620c591970c3321cbebf958d8a35dfed155b6a2f73a6c52c883bbad596f9c84d", func := "loop.example/g00974/laws.FnExactCallLine", spec := "fnExactCallLine", named := ["loop.example/g00974/impl.callNames", "internal/strconv.uint64pow10", "math/bits.deBruijn32tab", "math/bits.deBruijn64tab"], apart := false, laid := [("math/bits.deBruijn32tab", laid_math_bits_deBruijn32tab), ("math/bits.deBruijn64tab", laid_math_bits_deBruijn64tab), ("internal/strconv.uint64pow10", laid_internal_strconv_uint64pow10), ("loop.example/g00974/impl.callNames", laid_loop_example_g00974_impl_callNames)], narrowed := true }
def FnExactCallLineUptoSaid : Prop := fnExactCallLineUptoRow.holds Tryd.pinned (OpenSpec.upto fnExactCallLineSpec)

/-- 'laws.FnExactActLine', WHERE WHAT IT READS IS OF BULK AT MOST 1048576: true; the input reads as it did. -/
def fnExactActLineUptoRow : OpenClaim := { program := "ytmjjcihoobnbgaadoor", sum := "620c591970c3321cbebf958d8a35dfed155b6a2f73a6c52c883bbad596f9c84d", func := "loop.example/g00974/laws.FnExactActLine", spec := "fnExactActLine", named := ["loop.example/g00974/impl.actNames", "internal/strconv.uint64pow10", "math/bits.deBruijn32tab", "math/bits.deBruijn64tab", "loop.example/g00974/impl.callNames"], apart := false, laid := [("math/bits.deBruijn32tab", laid_math_bits_deBruijn32tab), ("math/bits.deBruijn64tab", laid_math_bits_deBruijn64tab), ("internal/strconv.uint64pow10", laid_internal_strconv_uint64pow10), ("loop.example/g00974/impl.callNames", laid_loop_example_g00974_impl_callNames), ("loop.example/g00974/impl.actNames", laid_loop_example_g00974_impl_actNames)], narrowed := true }
def FnExactActLineUptoSaid : Prop := fnExactActLineUptoRow.holds Tryd.pinned (OpenSpec.upto fnExactActLineSpec)

/-- 'laws.FnExactTxLines', WHERE WHAT IT READS IS OF BULK AT MOST 1048576: true; the input reads as it did. -/
def fnExactTxLinesUptoRow : OpenClaim := { program := "ytmjjcihoobnbgaadoor", sum := "620c591970c3321cbebf958d8a35dfed155b6a2f73a6c52c883bbad596f9c84d", func := "loop.example/g00974/laws.FnExactTxLines", spec := "fnExactTxLines", inPlace := ["internal/abi.NoEscape", "internal/bytealg.MakeNoZero"], named := ["internal/strconv.uint64pow10", "math/bits.deBruijn32tab", "math/bits.deBruijn64tab"], apart := false, laid := [("math/bits.deBruijn32tab", laid_math_bits_deBruijn32tab), ("math/bits.deBruijn64tab", laid_math_bits_deBruijn64tab), ("internal/strconv.uint64pow10", laid_internal_strconv_uint64pow10)], narrowed := true }
def FnExactTxLinesUptoSaid : Prop := fnExactTxLinesUptoRow.holds Tryd.pinned (OpenSpec.upto fnExactTxLinesSpec)

/-- 'laws.FnWordsBack', WHERE WHAT IT READS IS OF BULK AT MOST 1048576: true; the input reads as it did. -/
def fnWordsBackUptoRow : OpenClaim := { program := "ytmjjcihoobnbgaadoor", sum := "620c591970c3321cbebf958d8a35dfed155b6a2f73a6c52c883bbad596f9c84d", func := "loop.example/g00974/laws.FnWordsBack", spec := "fnWordsBack", unfollowed := true, recurses := true, named := ["loop.example/g00974/impl.callNames", "internal/strconv.uint64pow10", "math/bits.deBruijn32tab", "math/bits.deBruijn64tab", "strings.asciiSpace", "unicode.White_Space", "strconv.ErrSyntax", "strconv.ErrRange", "encoding/hex.ErrLength"], apart := false, laid := [("math/bits.deBruijn32tab", laid_math_bits_deBruijn32tab), ("math/bits.deBruijn64tab", laid_math_bits_deBruijn64tab), ("internal/strconv.uint64pow10", laid_internal_strconv_uint64pow10), ("strconv.ErrRange", laid_strconv_ErrRange), ("strconv.ErrSyntax", laid_strconv_ErrSyntax), ("unicode.White_Space", laid_unicode_White_Space), ("strings.asciiSpace", laid_strings_asciiSpace), ("encoding/hex.ErrLength", laid_encoding_hex_ErrLength), ("loop.example/g00974/impl.callNames", laid_loop_example_g00974_impl_callNames)], narrowed := true }
def FnWordsBackUptoSaid : Prop := fnWordsBackUptoRow.holds Tryd.pinned (OpenSpec.upto fnWordsBackSpec)

/-- 'laws.FnExactReadCall', WHERE WHAT IT READS IS OF BULK AT MOST 1048576: true; the input reads as it did. -/
def fnExactReadCallUptoRow : OpenClaim := { program := "ytmjjcihoobnbgaadoor", sum := "620c591970c3321cbebf958d8a35dfed155b6a2f73a6c52c883bbad596f9c84d", func := "loop.example/g00974/laws.FnExactReadCall", spec := "fnExactReadCall", unfollowed := true, recurses := true, named := ["loop.example/g00974/impl.callNames", "strconv.ErrSyntax", "strconv.ErrRange", "internal/strconv.uint64pow10", "math/bits.deBruijn32tab", "math/bits.deBruijn64tab", "encoding/hex.ErrLength", "strings.asciiSpace", "unicode.White_Space"], apart := false, laid := [("math/bits.deBruijn32tab", laid_math_bits_deBruijn32tab), ("math/bits.deBruijn64tab", laid_math_bits_deBruijn64tab), ("internal/strconv.uint64pow10", laid_internal_strconv_uint64pow10), ("strconv.ErrRange", laid_strconv_ErrRange), ("strconv.ErrSyntax", laid_strconv_ErrSyntax), ("unicode.White_Space", laid_unicode_White_Space), ("strings.asciiSpace", laid_strings_asciiSpace), ("encoding/hex.ErrLength", laid_encoding_hex_ErrLength), ("loop.example/g00974/impl.callNames", laid_loop_example_g00974_impl_callNames)], narrowed := true }
def FnExactReadCallUptoSaid : Prop := fnExactReadCallUptoRow.holds Tryd.pinned (OpenSpec.upto fnExactReadCallSpec)

/-- 'laws.FnExactReadAct', WHERE WHAT IT READS IS OF BULK AT MOST 1048576: true; the input reads as it did. -/
def fnExactReadActUptoRow : OpenClaim := { program := "ytmjjcihoobnbgaadoor", sum := "620c591970c3321cbebf958d8a35dfed155b6a2f73a6c52c883bbad596f9c84d", func := "loop.example/g00974/laws.FnExactReadAct", spec := "fnExactReadAct", unfollowed := true, recurses := true, named := ["loop.example/g00974/impl.actNames", "strings.asciiSpace", "unicode.White_Space", "strconv.ErrSyntax", "strconv.ErrRange", "internal/strconv.uint64pow10", "math/bits.deBruijn32tab", "math/bits.deBruijn64tab", "loop.example/g00974/impl.callNames", "encoding/hex.ErrLength"], apart := false, laid := [("math/bits.deBruijn32tab", laid_math_bits_deBruijn32tab), ("math/bits.deBruijn64tab", laid_math_bits_deBruijn64tab), ("internal/strconv.uint64pow10", laid_internal_strconv_uint64pow10), ("strconv.ErrRange", laid_strconv_ErrRange), ("strconv.ErrSyntax", laid_strconv_ErrSyntax), ("unicode.White_Space", laid_unicode_White_Space), ("strings.asciiSpace", laid_strings_asciiSpace), ("encoding/hex.ErrLength", laid_encoding_hex_ErrLength), ("loop.example/g00974/impl.callNames", laid_loop_example_g00974_impl_callNames), ("loop.example/g00974/impl.actNames", laid_loop_example_g00974_impl_actNames)], narrowed := true }
def FnExactReadActUptoSaid : Prop := fnExactReadActUptoRow.holds Tryd.pinned (OpenSpec.upto fnExactReadActSpec)

end Rows
end Go.Proofs.YtmjjcihoobnbgaaDoor
