/-
  NARROWER THAN 'FOR EVERY INPUT', by the rows' own cells (each row's printed sentence says how): LangPrints: loops, laid · LangValues: loops, laid · LangBegun: laid · LangScoped: laid · LangTexts: laid · LangChanges: laid · LangOrdered: laid · LangWalked: laid · LangLaid: laid · LangTold: laid · LangChecks: loops, laid · LangPut: laid · LangValued: laid · LangSmall: laid.
  DERIVED. THE GIVEN ROWS OF THIS SEAT. 14 by the template 'for every input the law returns true; each argument reads behind the call as it read before'; 0 by the template 'total and deterministic' (their statements: YtiigojkfojnedaaGreatDoorTotals.lean).
  GIVEN WITH THE SEED: the statements are not yours to turn. If you find one false, say at which input.
  Laid BY PROGRAM, IN A SANDBOX (cutbox-rows.mjs): the forced cells as the released guide's own fill.sh prints them over the translation de6acb575d77bebe… (all of the seat's roots in one cut). By AI agents, Wed Nov 11 2026. No macro, syntax, notation, axiom, sorry.
-/
import Derived.Test.YtiigojkfojnedaaGreatDoorChecked
import GoSem.PinnedTables
import GoSem.Claim
import GoSem.ClaimJoined
import GoSem.ClaimMapViews
import Derived.JoinedTies
import Derived.KernelRfl
namespace Go.Proofs.YtiigojkfojnedaaGreatDoor
/- THE CELL 'sum', in the pinned program and in every row, IS THE sha256 OF THE DUMP (.gsa) THAT YtiigojkfojnedaaGreatDoorProg.lean LOADS. Nothing in Lean hashes anything: it is a label: what it is worth is what the hold of that sum in a sandbox is worth. -/
noncomputable def Tryz.pinned : Pinned := { name := "ytiigojkfojnedaagreatdoor", sum := "de6acb575d77bebe3ee50dee0b3e5c59fdbc8c635020e237108c6fce351b1a24", checked := Tryz.checked }
namespace Rows
def none {H : Type} : Left H := { results := [], args := [] }

/- WHAT THE LISTED PACKAGE-LEVEL VARIABLES READ AS WHEN THE CALL BEGINS. Each datum BY PROGRAM (the guide's laid-datum.mjs) off the statement by which the dump's own 'gosem.cut.vars' lays the variable. In a bare row this is a premise. The card (YtiigojkfojnedaaGreatDoorCards.lean) ties it to the program's text. -/
def laid_math_bits_deBruijn32tab {H : Type} : DataW H := .agg [.lit (.int .u8 0), .lit (.int .u8 1), .lit (.int .u8 28), .lit (.int .u8 2), .lit (.int .u8 29), .lit (.int .u8 14), .lit (.int .u8 24), .lit (.int .u8 3), .lit (.int .u8 30), .lit (.int .u8 22), .lit (.int .u8 20), .lit (.int .u8 15), .lit (.int .u8 25), .lit (.int .u8 17), .lit (.int .u8 4), .lit (.int .u8 8), .lit (.int .u8 31), .lit (.int .u8 27), .lit (.int .u8 13), .lit (.int .u8 23), .lit (.int .u8 21), .lit (.int .u8 19), .lit (.int .u8 16), .lit (.int .u8 7), .lit (.int .u8 26), .lit (.int .u8 12), .lit (.int .u8 18), .lit (.int .u8 6), .lit (.int .u8 11), .lit (.int .u8 5), .lit (.int .u8 10), .lit (.int .u8 9)]
def laid_math_bits_deBruijn64tab {H : Type} : DataW H := .agg [.lit (.int .u8 0), .lit (.int .u8 1), .lit (.int .u8 56), .lit (.int .u8 2), .lit (.int .u8 57), .lit (.int .u8 49), .lit (.int .u8 28), .lit (.int .u8 3), .lit (.int .u8 61), .lit (.int .u8 58), .lit (.int .u8 42), .lit (.int .u8 50), .lit (.int .u8 38), .lit (.int .u8 29), .lit (.int .u8 17), .lit (.int .u8 4), .lit (.int .u8 62), .lit (.int .u8 47), .lit (.int .u8 59), .lit (.int .u8 36), .lit (.int .u8 45), .lit (.int .u8 43), .lit (.int .u8 51), .lit (.int .u8 22), .lit (.int .u8 53), .lit (.int .u8 39), .lit (.int .u8 33), .lit (.int .u8 30), .lit (.int .u8 24), .lit (.int .u8 18), .lit (.int .u8 12), .lit (.int .u8 5), .lit (.int .u8 63), .lit (.int .u8 55), .lit (.int .u8 48), .lit (.int .u8 27), .lit (.int .u8 60), .lit (.int .u8 41), .lit (.int .u8 37), .lit (.int .u8 16), .lit (.int .u8 46), .lit (.int .u8 35), .lit (.int .u8 44), .lit (.int .u8 21), .lit (.int .u8 52), .lit (.int .u8 32), .lit (.int .u8 23), .lit (.int .u8 11), .lit (.int .u8 54), .lit (.int .u8 26), .lit (.int .u8 40), .lit (.int .u8 15), .lit (.int .u8 34), .lit (.int .u8 20), .lit (.int .u8 31), .lit (.int .u8 10), .lit (.int .u8 25), .lit (.int .u8 14), .lit (.int .u8 19), .lit (.int .u8 9), .lit (.int .u8 13), .lit (.int .u8 8), .lit (.int .u8 7), .lit (.int .u8 6)]
def laid_internal_strconv_uint64pow10 {H : Type} : DataW H := .agg [.lit (.int .u64 1), .lit (.int .u64 10), .lit (.int .u64 100), .lit (.int .u64 1000), .lit (.int .u64 10000), .lit (.int .u64 100000), .lit (.int .u64 1000000), .lit (.int .u64 10000000), .lit (.int .u64 100000000), .lit (.int .u64 1000000000), .lit (.int .u64 10000000000), .lit (.int .u64 100000000000), .lit (.int .u64 1000000000000), .lit (.int .u64 10000000000000), .lit (.int .u64 100000000000000), .lit (.int .u64 1000000000000000), .lit (.int .u64 10000000000000000), .lit (.int .u64 100000000000000000), .lit (.int .u64 1000000000000000000), .lit (.int .u64 10000000000000000000)]
def laid_strconv_ErrRange {H : Type} : DataW H := .iface "*errors.errorString" (.ptr (.agg [.lit (.string [118, 97, 108, 117, 101, 32, 111, 117, 116, 32, 111, 102, 32, 114, 97, 110, 103, 101])]))
def laid_strconv_ErrSyntax {H : Type} : DataW H := .iface "*errors.errorString" (.ptr (.agg [.lit (.string [105, 110, 118, 97, 108, 105, 100, 32, 115, 121, 110, 116, 97, 120])]))
def laid_spoondrift_lang_gates {H : Type} : DataW H := .slice [.lit (.string [120]), .lit (.string [121]), .lit (.string [122]), .lit (.string [104]), .lit (.string [115]), .lit (.string [115, 100]), .lit (.string [116]), .lit (.string [116, 100]), .lit (.string [99, 120]), .lit (.string [99, 122]), .lit (.string [115, 119, 97, 112]), .lit (.string [99, 99, 120])] []
def laid_spoondrift_lang_keywords {H : Type} : DataW H := .slice [.lit (.string [112, 114, 111, 99]), .lit (.string [116, 97, 107, 101]), .lit (.string [100, 114, 111, 112]), .lit (.string [98, 111, 114, 114, 111, 119]), .lit (.string [109, 101, 97, 115, 117, 114, 101]), .lit (.string [114, 101, 115, 101, 116]), .lit (.string [105, 102]), .lit (.string [101, 108, 115, 101]), .lit (.string [102, 111, 114]), .lit (.string [117, 110, 100, 111]), .lit (.string [119, 105, 116, 104, 105, 110]), .lit (.string [97, 112, 112, 108, 121])] []
def laid_unicode_utf8_acceptRanges {H : Type} : DataW H := .agg [.agg [.lit (.int .u8 128), .lit (.int .u8 191)], .agg [.lit (.int .u8 160), .lit (.int .u8 191)], .agg [.lit (.int .u8 128), .lit (.int .u8 159)], .agg [.lit (.int .u8 144), .lit (.int .u8 191)], .agg [.lit (.int .u8 128), .lit (.int .u8 143)], .agg [.lit (.int .u8 0), .lit (.int .u8 0)], .agg [.lit (.int .u8 0), .lit (.int .u8 0)], .agg [.lit (.int .u8 0), .lit (.int .u8 0)], .agg [.lit (.int .u8 0), .lit (.int .u8 0)], .agg [.lit (.int .u8 0), .lit (.int .u8 0)], .agg [.lit (.int .u8 0), .lit (.int .u8 0)], .agg [.lit (.int .u8 0), .lit (.int .u8 0)], .agg [.lit (.int .u8 0), .lit (.int .u8 0)], .agg [.lit (.int .u8 0), .lit (.int .u8 0)], .agg [.lit (.int .u8 0), .lit (.int .u8 0)], .agg [.lit (.int .u8 0), .lit (.int .u8 0)]]
/-- One of Go's own tables, pinned by name: the form's constant. -/
def laid_unicode_utf8_first : DataW Unit := Go.Pinned.utf8First

/-- 'spoondriftlaw20.LangPrints': WHATEVER THE INPUT: true; the input reads as it did. -/
def langPrintsSpec : ChangeSpec := { name := "langPrints", fn := fun _ => fun
  | [d1, d2] => { results := [.lit (.bool true)], args := [d1, d2] }
  | _ => none }
def langPrintsRow : OpenClaim := { program := "ytiigojkfojnedaagreatdoor", sum := "de6acb575d77bebe3ee50dee0b3e5c59fdbc8c635020e237108c6fce351b1a24", func := "spoondrift/spoondriftlaw20.LangPrints", spec := "langPrints", inPlace := ["internal/bytealg.IndexByteString", "maps.clone", "internal/abi.NoEscape", "internal/bytealg.MakeNoZero"], unfollowed := true, recurses := true, named := ["spoondrift/lang.gates", "spoondrift/lang.keywords", "strconv.ErrSyntax", "strconv.ErrRange", "internal/strconv.uint64pow10", "math/bits.deBruijn32tab", "math/bits.deBruijn64tab"], loops := true, apart := false, laid := [("math/bits.deBruijn32tab", laid_math_bits_deBruijn32tab), ("math/bits.deBruijn64tab", laid_math_bits_deBruijn64tab), ("internal/strconv.uint64pow10", laid_internal_strconv_uint64pow10), ("strconv.ErrRange", laid_strconv_ErrRange), ("strconv.ErrSyntax", laid_strconv_ErrSyntax), ("spoondrift/lang.gates", laid_spoondrift_lang_gates), ("spoondrift/lang.keywords", laid_spoondrift_lang_keywords)] }
def LangPrintsSaid : Prop := langPrintsRow.holds Tryz.pinned (OpenSpec.ofChange langPrintsSpec)

/-- ITS FALSE NEIGHBOUR: 'it returns false'. Refute it at one input. -/
def langPrintsWrong : ChangeSpec := { name := "langPrints", fn := fun _ => fun
  | [d1, d2] => { results := [.lit (.bool false)], args := [d1, d2] }
  | _ => none }
def LangPrintsWrongFalsely : Prop := langPrintsRow.holds Tryz.pinned (OpenSpec.ofChange langPrintsWrong)

/-- 'spoondriftlaw20.LangValues': WHATEVER THE INPUT: true; the input reads as it did. -/
def langValuesSpec : ChangeSpec := { name := "langValues", fn := fun _ => fun
  | [d1, d2, d3] => { results := [.lit (.bool true)], args := [d1, d2, d3] }
  | _ => none }
def langValuesRow : OpenClaim := { program := "ytiigojkfojnedaagreatdoor", sum := "de6acb575d77bebe3ee50dee0b3e5c59fdbc8c635020e237108c6fce351b1a24", func := "spoondrift/spoondriftlaw20.LangValues", spec := "langValues", inPlace := ["internal/bytealg.IndexByteString", "maps.clone", "internal/abi.NoEscape", "internal/bytealg.MakeNoZero"], unfollowed := true, recurses := true, named := ["spoondrift/lang.gates", "spoondrift/lang.keywords", "strconv.ErrSyntax", "strconv.ErrRange", "internal/strconv.uint64pow10", "math/bits.deBruijn32tab", "math/bits.deBruijn64tab"], loops := true, apart := false, laid := [("math/bits.deBruijn32tab", laid_math_bits_deBruijn32tab), ("math/bits.deBruijn64tab", laid_math_bits_deBruijn64tab), ("internal/strconv.uint64pow10", laid_internal_strconv_uint64pow10), ("strconv.ErrRange", laid_strconv_ErrRange), ("strconv.ErrSyntax", laid_strconv_ErrSyntax), ("spoondrift/lang.gates", laid_spoondrift_lang_gates), ("spoondrift/lang.keywords", laid_spoondrift_lang_keywords)] }
def LangValuesSaid : Prop := langValuesRow.holds Tryz.pinned (OpenSpec.ofChange langValuesSpec)

/-- ITS FALSE NEIGHBOUR: 'it returns false'. Refute it at one input. -/
def langValuesWrong : ChangeSpec := { name := "langValues", fn := fun _ => fun
  | [d1, d2, d3] => { results := [.lit (.bool false)], args := [d1, d2, d3] }
  | _ => none }
def LangValuesWrongFalsely : Prop := langValuesRow.holds Tryz.pinned (OpenSpec.ofChange langValuesWrong)

/-- 'spoondriftlaw20.LangBegun': WHATEVER THE INPUT: true; the input reads as it did. -/
def langBegunSpec : ChangeSpec := { name := "langBegun", fn := fun _ => fun
  | [d1, d2, d3, d4] => { results := [.lit (.bool true)], args := [d1, d2, d3, d4] }
  | _ => none }
def langBegunRow : OpenClaim := { program := "ytiigojkfojnedaagreatdoor", sum := "de6acb575d77bebe3ee50dee0b3e5c59fdbc8c635020e237108c6fce351b1a24", func := "spoondrift/spoondriftlaw20.LangBegun", spec := "langBegun", inPlace := ["maps.clone", "internal/abi.NoEscape", "internal/bytealg.MakeNoZero", "internal/bytealg.IndexByteString"], unfollowed := true, recurses := true, named := ["spoondrift/lang.gates", "spoondrift/lang.keywords", "internal/strconv.uint64pow10", "math/bits.deBruijn32tab", "math/bits.deBruijn64tab", "strconv.ErrSyntax", "strconv.ErrRange"], apart := false, laid := [("math/bits.deBruijn32tab", laid_math_bits_deBruijn32tab), ("math/bits.deBruijn64tab", laid_math_bits_deBruijn64tab), ("internal/strconv.uint64pow10", laid_internal_strconv_uint64pow10), ("strconv.ErrRange", laid_strconv_ErrRange), ("strconv.ErrSyntax", laid_strconv_ErrSyntax), ("spoondrift/lang.gates", laid_spoondrift_lang_gates), ("spoondrift/lang.keywords", laid_spoondrift_lang_keywords)] }
def LangBegunSaid : Prop := langBegunRow.holds Tryz.pinned (OpenSpec.ofChange langBegunSpec)

/-- ITS FALSE NEIGHBOUR: 'it returns false'. Refute it at one input. -/
def langBegunWrong : ChangeSpec := { name := "langBegun", fn := fun _ => fun
  | [d1, d2, d3, d4] => { results := [.lit (.bool false)], args := [d1, d2, d3, d4] }
  | _ => none }
def LangBegunWrongFalsely : Prop := langBegunRow.holds Tryz.pinned (OpenSpec.ofChange langBegunWrong)

/-- 'spoondriftlaw20.LangScoped': WHATEVER THE INPUT: true; the input reads as it did. -/
def langScopedSpec : ChangeSpec := { name := "langScoped", fn := fun _ => fun
  | [d1, d2] => { results := [.lit (.bool true)], args := [d1, d2] }
  | _ => none }
def langScopedRow : OpenClaim := { program := "ytiigojkfojnedaagreatdoor", sum := "de6acb575d77bebe3ee50dee0b3e5c59fdbc8c635020e237108c6fce351b1a24", func := "spoondrift/spoondriftlaw20.LangScoped", spec := "langScoped", inPlace := ["maps.clone", "internal/bytealg.IndexByteString", "internal/abi.NoEscape", "internal/bytealg.MakeNoZero"], unfollowed := true, recurses := true, named := ["spoondrift/lang.gates", "spoondrift/lang.keywords", "strconv.ErrSyntax", "strconv.ErrRange", "internal/strconv.uint64pow10", "math/bits.deBruijn32tab", "math/bits.deBruijn64tab"], apart := false, laid := [("math/bits.deBruijn32tab", laid_math_bits_deBruijn32tab), ("math/bits.deBruijn64tab", laid_math_bits_deBruijn64tab), ("internal/strconv.uint64pow10", laid_internal_strconv_uint64pow10), ("strconv.ErrRange", laid_strconv_ErrRange), ("strconv.ErrSyntax", laid_strconv_ErrSyntax), ("spoondrift/lang.gates", laid_spoondrift_lang_gates), ("spoondrift/lang.keywords", laid_spoondrift_lang_keywords)] }
def LangScopedSaid : Prop := langScopedRow.holds Tryz.pinned (OpenSpec.ofChange langScopedSpec)

/-- ITS FALSE NEIGHBOUR: 'it returns false'. Refute it at one input. -/
def langScopedWrong : ChangeSpec := { name := "langScoped", fn := fun _ => fun
  | [d1, d2] => { results := [.lit (.bool false)], args := [d1, d2] }
  | _ => none }
def LangScopedWrongFalsely : Prop := langScopedRow.holds Tryz.pinned (OpenSpec.ofChange langScopedWrong)

/-- 'spoondriftlaw20.LangTexts': WHATEVER THE INPUT: true; the input reads as it did. -/
def langTextsSpec : ChangeSpec := { name := "langTexts", fn := fun _ => fun
  | [d] => { results := [.lit (.bool true)], args := [d] }
  | _ => none }
def langTextsRow : OpenClaim := { program := "ytiigojkfojnedaagreatdoor", sum := "de6acb575d77bebe3ee50dee0b3e5c59fdbc8c635020e237108c6fce351b1a24", func := "spoondrift/spoondriftlaw20.LangTexts", spec := "langTexts", inPlace := ["internal/bytealg.IndexByteString", "maps.clone", "internal/abi.NoEscape", "internal/bytealg.MakeNoZero"], unfollowed := true, recurses := true, named := ["spoondrift/lang.gates", "spoondrift/lang.keywords", "strconv.ErrSyntax", "strconv.ErrRange", "internal/strconv.uint64pow10", "math/bits.deBruijn32tab", "math/bits.deBruijn64tab"], apart := false, laid := [("math/bits.deBruijn32tab", laid_math_bits_deBruijn32tab), ("math/bits.deBruijn64tab", laid_math_bits_deBruijn64tab), ("internal/strconv.uint64pow10", laid_internal_strconv_uint64pow10), ("strconv.ErrRange", laid_strconv_ErrRange), ("strconv.ErrSyntax", laid_strconv_ErrSyntax), ("spoondrift/lang.gates", laid_spoondrift_lang_gates), ("spoondrift/lang.keywords", laid_spoondrift_lang_keywords)] }
def LangTextsSaid : Prop := langTextsRow.holds Tryz.pinned (OpenSpec.ofChange langTextsSpec)

/-- ITS FALSE NEIGHBOUR: 'it returns false'. Refute it at one input. -/
def langTextsWrong : ChangeSpec := { name := "langTexts", fn := fun _ => fun
  | [d] => { results := [.lit (.bool false)], args := [d] }
  | _ => none }
def LangTextsWrongFalsely : Prop := langTextsRow.holds Tryz.pinned (OpenSpec.ofChange langTextsWrong)

/-- 'spoondriftlaw20.LangChanges': WHATEVER THE INPUT: true; the input reads as it did. -/
def langChangesSpec : ChangeSpec := { name := "langChanges", fn := fun _ => fun
  | [d1, d2, d3] => { results := [.lit (.bool true)], args := [d1, d2, d3] }
  | _ => none }
def langChangesRow : OpenClaim := { program := "ytiigojkfojnedaagreatdoor", sum := "de6acb575d77bebe3ee50dee0b3e5c59fdbc8c635020e237108c6fce351b1a24", func := "spoondrift/spoondriftlaw20.LangChanges", spec := "langChanges", inPlace := ["internal/bytealg.IndexByteString", "maps.clone", "internal/abi.NoEscape", "internal/bytealg.MakeNoZero"], unfollowed := true, recurses := true, named := ["spoondrift/lang.gates", "spoondrift/lang.keywords", "strconv.ErrSyntax", "strconv.ErrRange", "internal/strconv.uint64pow10", "math/bits.deBruijn32tab", "math/bits.deBruijn64tab"], apart := false, laid := [("math/bits.deBruijn32tab", laid_math_bits_deBruijn32tab), ("math/bits.deBruijn64tab", laid_math_bits_deBruijn64tab), ("internal/strconv.uint64pow10", laid_internal_strconv_uint64pow10), ("strconv.ErrRange", laid_strconv_ErrRange), ("strconv.ErrSyntax", laid_strconv_ErrSyntax), ("spoondrift/lang.gates", laid_spoondrift_lang_gates), ("spoondrift/lang.keywords", laid_spoondrift_lang_keywords)] }
def LangChangesSaid : Prop := langChangesRow.holds Tryz.pinned (OpenSpec.ofChange langChangesSpec)

/-- ITS FALSE NEIGHBOUR: 'it returns false'. Refute it at one input. -/
def langChangesWrong : ChangeSpec := { name := "langChanges", fn := fun _ => fun
  | [d1, d2, d3] => { results := [.lit (.bool false)], args := [d1, d2, d3] }
  | _ => none }
def LangChangesWrongFalsely : Prop := langChangesRow.holds Tryz.pinned (OpenSpec.ofChange langChangesWrong)

/-- 'spoondriftlaw20.LangOrdered': WHATEVER THE INPUT: true; the input reads as it did. -/
def langOrderedSpec : ChangeSpec := { name := "langOrdered", fn := fun _ => fun
  | [d] => { results := [.lit (.bool true)], args := [d] }
  | _ => none }
def langOrderedRow : OpenClaim := { program := "ytiigojkfojnedaagreatdoor", sum := "de6acb575d77bebe3ee50dee0b3e5c59fdbc8c635020e237108c6fce351b1a24", func := "spoondrift/spoondriftlaw20.LangOrdered", spec := "langOrdered", inPlace := ["maps.clone", "internal/bytealg.IndexByteString", "internal/abi.NoEscape", "internal/bytealg.MakeNoZero"], unfollowed := true, recurses := true, named := ["spoondrift/lang.gates", "spoondrift/lang.keywords", "strconv.ErrSyntax", "strconv.ErrRange", "internal/strconv.uint64pow10", "math/bits.deBruijn32tab", "math/bits.deBruijn64tab"], apart := false, laid := [("math/bits.deBruijn32tab", laid_math_bits_deBruijn32tab), ("math/bits.deBruijn64tab", laid_math_bits_deBruijn64tab), ("internal/strconv.uint64pow10", laid_internal_strconv_uint64pow10), ("strconv.ErrRange", laid_strconv_ErrRange), ("strconv.ErrSyntax", laid_strconv_ErrSyntax), ("spoondrift/lang.gates", laid_spoondrift_lang_gates), ("spoondrift/lang.keywords", laid_spoondrift_lang_keywords)] }
def LangOrderedSaid : Prop := langOrderedRow.holds Tryz.pinned (OpenSpec.ofChange langOrderedSpec)

/-- ITS FALSE NEIGHBOUR: 'it returns false'. Refute it at one input. -/
def langOrderedWrong : ChangeSpec := { name := "langOrdered", fn := fun _ => fun
  | [d] => { results := [.lit (.bool false)], args := [d] }
  | _ => none }
def LangOrderedWrongFalsely : Prop := langOrderedRow.holds Tryz.pinned (OpenSpec.ofChange langOrderedWrong)

/-- 'spoondriftlaw20.LangWalked': WHATEVER THE INPUT: true; the input reads as it did. -/
def langWalkedSpec : ChangeSpec := { name := "langWalked", fn := fun _ => fun
  | [d1, d2] => { results := [.lit (.bool true)], args := [d1, d2] }
  | _ => none }
def langWalkedRow : OpenClaim := { program := "ytiigojkfojnedaagreatdoor", sum := "de6acb575d77bebe3ee50dee0b3e5c59fdbc8c635020e237108c6fce351b1a24", func := "spoondrift/spoondriftlaw20.LangWalked", spec := "langWalked", inPlace := ["maps.clone", "internal/abi.NoEscape", "internal/bytealg.MakeNoZero", "internal/bytealg.IndexByteString"], unfollowed := true, recurses := true, named := ["spoondrift/lang.gates", "spoondrift/lang.keywords", "internal/strconv.uint64pow10", "math/bits.deBruijn32tab", "math/bits.deBruijn64tab", "strconv.ErrSyntax", "strconv.ErrRange"], apart := false, laid := [("math/bits.deBruijn32tab", laid_math_bits_deBruijn32tab), ("math/bits.deBruijn64tab", laid_math_bits_deBruijn64tab), ("internal/strconv.uint64pow10", laid_internal_strconv_uint64pow10), ("strconv.ErrRange", laid_strconv_ErrRange), ("strconv.ErrSyntax", laid_strconv_ErrSyntax), ("spoondrift/lang.gates", laid_spoondrift_lang_gates), ("spoondrift/lang.keywords", laid_spoondrift_lang_keywords)] }
def LangWalkedSaid : Prop := langWalkedRow.holds Tryz.pinned (OpenSpec.ofChange langWalkedSpec)

/-- ITS FALSE NEIGHBOUR: 'it returns false'. Refute it at one input. -/
def langWalkedWrong : ChangeSpec := { name := "langWalked", fn := fun _ => fun
  | [d1, d2] => { results := [.lit (.bool false)], args := [d1, d2] }
  | _ => none }
def LangWalkedWrongFalsely : Prop := langWalkedRow.holds Tryz.pinned (OpenSpec.ofChange langWalkedWrong)

/-- 'spoondriftlaw20.LangLaid': WHATEVER THE INPUT: true; the input reads as it did. -/
def langLaidSpec : ChangeSpec := { name := "langLaid", fn := fun _ => fun
  | [d1, d2] => { results := [.lit (.bool true)], args := [d1, d2] }
  | _ => none }
def langLaidRow : OpenClaim := { program := "ytiigojkfojnedaagreatdoor", sum := "de6acb575d77bebe3ee50dee0b3e5c59fdbc8c635020e237108c6fce351b1a24", func := "spoondrift/spoondriftlaw20.LangLaid", spec := "langLaid", inPlace := ["maps.clone", "internal/abi.NoEscape", "internal/bytealg.MakeNoZero", "internal/bytealg.IndexByteString"], unfollowed := true, recurses := true, named := ["spoondrift/lang.gates", "spoondrift/lang.keywords", "internal/strconv.uint64pow10", "math/bits.deBruijn32tab", "math/bits.deBruijn64tab", "strconv.ErrSyntax", "strconv.ErrRange"], apart := false, laid := [("math/bits.deBruijn32tab", laid_math_bits_deBruijn32tab), ("math/bits.deBruijn64tab", laid_math_bits_deBruijn64tab), ("internal/strconv.uint64pow10", laid_internal_strconv_uint64pow10), ("strconv.ErrRange", laid_strconv_ErrRange), ("strconv.ErrSyntax", laid_strconv_ErrSyntax), ("spoondrift/lang.gates", laid_spoondrift_lang_gates), ("spoondrift/lang.keywords", laid_spoondrift_lang_keywords)] }
def LangLaidSaid : Prop := langLaidRow.holds Tryz.pinned (OpenSpec.ofChange langLaidSpec)

/-- ITS FALSE NEIGHBOUR: 'it returns false'. Refute it at one input. -/
def langLaidWrong : ChangeSpec := { name := "langLaid", fn := fun _ => fun
  | [d1, d2] => { results := [.lit (.bool false)], args := [d1, d2] }
  | _ => none }
def LangLaidWrongFalsely : Prop := langLaidRow.holds Tryz.pinned (OpenSpec.ofChange langLaidWrong)

/-- 'spoondriftlaw20.LangTold': WHATEVER THE INPUT: true; the input reads as it did. -/
def langToldSpec : ChangeSpec := { name := "langTold", fn := fun _ => fun
  | [d1, d2] => { results := [.lit (.bool true)], args := [d1, d2] }
  | _ => none }
def langToldRow : OpenClaim := { program := "ytiigojkfojnedaagreatdoor", sum := "de6acb575d77bebe3ee50dee0b3e5c59fdbc8c635020e237108c6fce351b1a24", func := "spoondrift/spoondriftlaw20.LangTold", spec := "langTold", inPlace := ["maps.clone", "internal/abi.NoEscape", "internal/bytealg.MakeNoZero", "internal/bytealg.IndexByteString"], unfollowed := true, recurses := true, named := ["spoondrift/lang.gates", "spoondrift/lang.keywords", "internal/strconv.uint64pow10", "math/bits.deBruijn32tab", "math/bits.deBruijn64tab", "strconv.ErrSyntax", "strconv.ErrRange"], apart := false, laid := [("math/bits.deBruijn32tab", laid_math_bits_deBruijn32tab), ("math/bits.deBruijn64tab", laid_math_bits_deBruijn64tab), ("internal/strconv.uint64pow10", laid_internal_strconv_uint64pow10), ("strconv.ErrRange", laid_strconv_ErrRange), ("strconv.ErrSyntax", laid_strconv_ErrSyntax), ("spoondrift/lang.gates", laid_spoondrift_lang_gates), ("spoondrift/lang.keywords", laid_spoondrift_lang_keywords)] }
def LangToldSaid : Prop := langToldRow.holds Tryz.pinned (OpenSpec.ofChange langToldSpec)

/-- ITS FALSE NEIGHBOUR: 'it returns false'. Refute it at one input. -/
def langToldWrong : ChangeSpec := { name := "langTold", fn := fun _ => fun
  | [d1, d2] => { results := [.lit (.bool false)], args := [d1, d2] }
  | _ => none }
def LangToldWrongFalsely : Prop := langToldRow.holds Tryz.pinned (OpenSpec.ofChange langToldWrong)

/-- 'spoondriftlaw20.LangChecks': WHATEVER THE INPUT: true; the input reads as it did. -/
def langChecksSpec : ChangeSpec := { name := "langChecks", fn := fun _ => fun
  | [d1, d2, d3, d4] => { results := [.lit (.bool true)], args := [d1, d2, d3, d4] }
  | _ => none }
def langChecksRow : OpenClaim := { program := "ytiigojkfojnedaagreatdoor", sum := "de6acb575d77bebe3ee50dee0b3e5c59fdbc8c635020e237108c6fce351b1a24", func := "spoondrift/spoondriftlaw20.LangChecks", spec := "langChecks", inPlace := ["internal/bytealg.IndexByteString", "maps.clone", "internal/abi.NoEscape", "internal/bytealg.MakeNoZero"], unfollowed := true, recurses := true, named := ["spoondrift/lang.gates", "spoondrift/lang.keywords", "strconv.ErrSyntax", "strconv.ErrRange", "internal/strconv.uint64pow10", "math/bits.deBruijn32tab", "math/bits.deBruijn64tab"], loops := true, apart := false, laid := [("math/bits.deBruijn32tab", laid_math_bits_deBruijn32tab), ("math/bits.deBruijn64tab", laid_math_bits_deBruijn64tab), ("internal/strconv.uint64pow10", laid_internal_strconv_uint64pow10), ("strconv.ErrRange", laid_strconv_ErrRange), ("strconv.ErrSyntax", laid_strconv_ErrSyntax), ("spoondrift/lang.gates", laid_spoondrift_lang_gates), ("spoondrift/lang.keywords", laid_spoondrift_lang_keywords)] }
def LangChecksSaid : Prop := langChecksRow.holds Tryz.pinned (OpenSpec.ofChange langChecksSpec)

/-- ITS FALSE NEIGHBOUR: 'it returns false'. Refute it at one input. -/
def langChecksWrong : ChangeSpec := { name := "langChecks", fn := fun _ => fun
  | [d1, d2, d3, d4] => { results := [.lit (.bool false)], args := [d1, d2, d3, d4] }
  | _ => none }
def LangChecksWrongFalsely : Prop := langChecksRow.holds Tryz.pinned (OpenSpec.ofChange langChecksWrong)

/-- 'spoondriftlaw20.LangPut': WHATEVER THE INPUT: true; the input reads as it did. -/
def langPutSpec : ChangeSpec := { name := "langPut", fn := fun _ => fun
  | [d1, d2, d3] => { results := [.lit (.bool true)], args := [d1, d2, d3] }
  | _ => none }
def langPutRow : OpenClaim := { program := "ytiigojkfojnedaagreatdoor", sum := "de6acb575d77bebe3ee50dee0b3e5c59fdbc8c635020e237108c6fce351b1a24", func := "spoondrift/spoondriftlaw20.LangPut", spec := "langPut", inPlace := ["maps.clone", "internal/abi.NoEscape", "internal/bytealg.MakeNoZero", "internal/bytealg.IndexByteString"], unfollowed := true, recurses := true, named := ["spoondrift/lang.gates", "spoondrift/lang.keywords", "internal/strconv.uint64pow10", "math/bits.deBruijn32tab", "math/bits.deBruijn64tab", "strconv.ErrSyntax", "strconv.ErrRange"], apart := false, laid := [("math/bits.deBruijn32tab", laid_math_bits_deBruijn32tab), ("math/bits.deBruijn64tab", laid_math_bits_deBruijn64tab), ("internal/strconv.uint64pow10", laid_internal_strconv_uint64pow10), ("strconv.ErrRange", laid_strconv_ErrRange), ("strconv.ErrSyntax", laid_strconv_ErrSyntax), ("spoondrift/lang.gates", laid_spoondrift_lang_gates), ("spoondrift/lang.keywords", laid_spoondrift_lang_keywords)] }
def LangPutSaid : Prop := langPutRow.holds Tryz.pinned (OpenSpec.ofChange langPutSpec)

/-- ITS FALSE NEIGHBOUR: 'it returns false'. Refute it at one input. -/
def langPutWrong : ChangeSpec := { name := "langPut", fn := fun _ => fun
  | [d1, d2, d3] => { results := [.lit (.bool false)], args := [d1, d2, d3] }
  | _ => none }
def LangPutWrongFalsely : Prop := langPutRow.holds Tryz.pinned (OpenSpec.ofChange langPutWrong)

/-- 'spoondriftlaw20.LangValued': WHATEVER THE INPUT: true; the input reads as it did. -/
def langValuedSpec : ChangeSpec := { name := "langValued", fn := fun _ => fun
  | [d1, d2, d3, d4] => { results := [.lit (.bool true)], args := [d1, d2, d3, d4] }
  | _ => none }
def langValuedRow : OpenClaim := { program := "ytiigojkfojnedaagreatdoor", sum := "de6acb575d77bebe3ee50dee0b3e5c59fdbc8c635020e237108c6fce351b1a24", func := "spoondrift/spoondriftlaw20.LangValued", spec := "langValued", inPlace := ["internal/bytealg.IndexByteString", "maps.clone", "internal/abi.NoEscape", "internal/bytealg.MakeNoZero", "internal/bytealg.CountString", "internal/bytealg.IndexString"], unfollowed := true, recurses := true, named := ["spoondrift/lang.gates", "spoondrift/lang.keywords", "internal/strconv.uint64pow10", "math/bits.deBruijn32tab", "math/bits.deBruijn64tab", "strconv.ErrSyntax", "strconv.ErrRange", "internal/bytealg.MaxLen"], apart := false, laid := [("math/bits.deBruijn32tab", laid_math_bits_deBruijn32tab), ("math/bits.deBruijn64tab", laid_math_bits_deBruijn64tab), ("internal/strconv.uint64pow10", laid_internal_strconv_uint64pow10), ("strconv.ErrRange", laid_strconv_ErrRange), ("strconv.ErrSyntax", laid_strconv_ErrSyntax), ("spoondrift/lang.gates", laid_spoondrift_lang_gates), ("spoondrift/lang.keywords", laid_spoondrift_lang_keywords)] }
def LangValuedSaid : Prop := langValuedRow.holds Tryz.pinned (OpenSpec.ofChange langValuedSpec)

/-- ITS FALSE NEIGHBOUR: 'it returns false'. Refute it at one input. -/
def langValuedWrong : ChangeSpec := { name := "langValued", fn := fun _ => fun
  | [d1, d2, d3, d4] => { results := [.lit (.bool false)], args := [d1, d2, d3, d4] }
  | _ => none }
def LangValuedWrongFalsely : Prop := langValuedRow.holds Tryz.pinned (OpenSpec.ofChange langValuedWrong)

/-- 'spoondriftlaw20.LangSmall': WHATEVER THE INPUT: true; the input reads as it did. -/
def langSmallSpec : ChangeSpec := { name := "langSmall", fn := fun _ => fun
  | [] => { results := [.lit (.bool true)], args := [] }
  | _ => none }
def langSmallRow : OpenClaim := { program := "ytiigojkfojnedaagreatdoor", sum := "de6acb575d77bebe3ee50dee0b3e5c59fdbc8c635020e237108c6fce351b1a24", func := "spoondrift/spoondriftlaw20.LangSmall", spec := "langSmall", inPlace := ["internal/bytealg.IndexByteString", "maps.clone", "internal/abi.NoEscape", "internal/bytealg.MakeNoZero", "internal/bytealg.CountString", "internal/bytealg.IndexString"], unfollowed := true, recurses := true, named := ["spoondrift/lang.gates", "spoondrift/lang.keywords", "strconv.ErrSyntax", "strconv.ErrRange", "internal/strconv.uint64pow10", "math/bits.deBruijn32tab", "math/bits.deBruijn64tab", "internal/bytealg.MaxLen", "unicode/utf8.first", "unicode/utf8.acceptRanges"], apart := false, laid := [("math/bits.deBruijn32tab", laid_math_bits_deBruijn32tab), ("math/bits.deBruijn64tab", laid_math_bits_deBruijn64tab), ("internal/strconv.uint64pow10", laid_internal_strconv_uint64pow10), ("unicode/utf8.acceptRanges", laid_unicode_utf8_acceptRanges), ("strconv.ErrRange", laid_strconv_ErrRange), ("strconv.ErrSyntax", laid_strconv_ErrSyntax), ("spoondrift/lang.gates", laid_spoondrift_lang_gates), ("spoondrift/lang.keywords", laid_spoondrift_lang_keywords), ("unicode/utf8.first", laid_unicode_utf8_first)] }
def LangSmallSaid : Prop := langSmallRow.holds Tryz.pinned (OpenSpec.ofChange langSmallSpec)

/-- ITS FALSE NEIGHBOUR: 'it returns false'. Refute it at one input. -/
def langSmallWrong : ChangeSpec := { name := "langSmall", fn := fun _ => fun
  | [] => { results := [.lit (.bool false)], args := [] }
  | _ => none }
def LangSmallWrongFalsely : Prop := langSmallRow.holds Tryz.pinned (OpenSpec.ofChange langSmallWrong)

/- THE SECOND FORM. 'bulk': how many values and letters a reading holds, each counted each time it is reached (what is shared counts as often as it is met; a slice's spare places count too). A statement '..UptoSaid' is the law's where the arguments, and the package variables that the reading takes, are together of bulk at most 1048576: NARROWER than '..Said'. Prove '..Said' where nothing that the law and all that it calls make is longer than what came in: it says more and counts as full. Else prove '..UptoSaid'. A law counts once. -/
mutual
def uptoBulk {H : Type} : DataW H → Nat
  | .lit (.string bytes) => bytes.length + 1
  | .lit _ => 1
  | .nil => 1
  | .ptr d => uptoBulk d + 1
  | .slice elems spare => uptoBulkAll elems + uptoBulkAll spare + 1
  | .agg parts => uptoBulkAll parts + 1
  | .iface _ d => uptoBulk d + 1
  | .map entries => uptoBulkEntries entries + 1
  | .held _ => 1
def uptoBulkAll {H : Type} : List (DataW H) → Nat
  | [] => 0
  | d :: r => uptoBulk d + uptoBulkAll r
def uptoBulkEntries {H : Type} : List (Lit × DataW H) → Nat
  | [] => 0
  | x :: r => uptoBulkEntry x + uptoBulkEntries r
def uptoBulkEntry {H : Type} : Lit × DataW H → Nat
  | (.string bytes, d) => bytes.length + uptoBulk d + 1
  | (_, d) => uptoBulk d + 1
 end
def uptoSmall : (H : Type) → List (DataW H) → Bool := fun _ ds => decide (uptoBulkAll ds ≤ 1048576)
def OpenSpec.upto (s : _root_.Go.ChangeSpec) : _root_.Go.OpenSpec := { _root_.Go.OpenSpec.ofChange s with cond := some uptoSmall }

/-- 'spoondriftlaw20.LangPrints', WHERE WHAT IT READS IS OF BULK AT MOST 1048576: true; the input reads as it did. -/
def langPrintsUptoRow : OpenClaim := { program := "ytiigojkfojnedaagreatdoor", sum := "de6acb575d77bebe3ee50dee0b3e5c59fdbc8c635020e237108c6fce351b1a24", func := "spoondrift/spoondriftlaw20.LangPrints", spec := "langPrints", inPlace := ["internal/bytealg.IndexByteString", "maps.clone", "internal/abi.NoEscape", "internal/bytealg.MakeNoZero"], unfollowed := true, recurses := true, named := ["spoondrift/lang.gates", "spoondrift/lang.keywords", "strconv.ErrSyntax", "strconv.ErrRange", "internal/strconv.uint64pow10", "math/bits.deBruijn32tab", "math/bits.deBruijn64tab"], loops := true, apart := false, laid := [("math/bits.deBruijn32tab", laid_math_bits_deBruijn32tab), ("math/bits.deBruijn64tab", laid_math_bits_deBruijn64tab), ("internal/strconv.uint64pow10", laid_internal_strconv_uint64pow10), ("strconv.ErrRange", laid_strconv_ErrRange), ("strconv.ErrSyntax", laid_strconv_ErrSyntax), ("spoondrift/lang.gates", laid_spoondrift_lang_gates), ("spoondrift/lang.keywords", laid_spoondrift_lang_keywords)], narrowed := true }
def LangPrintsUptoSaid : Prop := langPrintsUptoRow.holds Tryz.pinned (OpenSpec.upto langPrintsSpec)

/-- 'spoondriftlaw20.LangValues', WHERE WHAT IT READS IS OF BULK AT MOST 1048576: true; the input reads as it did. -/
def langValuesUptoRow : OpenClaim := { program := "ytiigojkfojnedaagreatdoor", sum := "de6acb575d77bebe3ee50dee0b3e5c59fdbc8c635020e237108c6fce351b1a24", func := "spoondrift/spoondriftlaw20.LangValues", spec := "langValues", inPlace := ["internal/bytealg.IndexByteString", "maps.clone", "internal/abi.NoEscape", "internal/bytealg.MakeNoZero"], unfollowed := true, recurses := true, named := ["spoondrift/lang.gates", "spoondrift/lang.keywords", "strconv.ErrSyntax", "strconv.ErrRange", "internal/strconv.uint64pow10", "math/bits.deBruijn32tab", "math/bits.deBruijn64tab"], loops := true, apart := false, laid := [("math/bits.deBruijn32tab", laid_math_bits_deBruijn32tab), ("math/bits.deBruijn64tab", laid_math_bits_deBruijn64tab), ("internal/strconv.uint64pow10", laid_internal_strconv_uint64pow10), ("strconv.ErrRange", laid_strconv_ErrRange), ("strconv.ErrSyntax", laid_strconv_ErrSyntax), ("spoondrift/lang.gates", laid_spoondrift_lang_gates), ("spoondrift/lang.keywords", laid_spoondrift_lang_keywords)], narrowed := true }
def LangValuesUptoSaid : Prop := langValuesUptoRow.holds Tryz.pinned (OpenSpec.upto langValuesSpec)

/-- 'spoondriftlaw20.LangBegun', WHERE WHAT IT READS IS OF BULK AT MOST 1048576: true; the input reads as it did. -/
def langBegunUptoRow : OpenClaim := { program := "ytiigojkfojnedaagreatdoor", sum := "de6acb575d77bebe3ee50dee0b3e5c59fdbc8c635020e237108c6fce351b1a24", func := "spoondrift/spoondriftlaw20.LangBegun", spec := "langBegun", inPlace := ["maps.clone", "internal/abi.NoEscape", "internal/bytealg.MakeNoZero", "internal/bytealg.IndexByteString"], unfollowed := true, recurses := true, named := ["spoondrift/lang.gates", "spoondrift/lang.keywords", "internal/strconv.uint64pow10", "math/bits.deBruijn32tab", "math/bits.deBruijn64tab", "strconv.ErrSyntax", "strconv.ErrRange"], apart := false, laid := [("math/bits.deBruijn32tab", laid_math_bits_deBruijn32tab), ("math/bits.deBruijn64tab", laid_math_bits_deBruijn64tab), ("internal/strconv.uint64pow10", laid_internal_strconv_uint64pow10), ("strconv.ErrRange", laid_strconv_ErrRange), ("strconv.ErrSyntax", laid_strconv_ErrSyntax), ("spoondrift/lang.gates", laid_spoondrift_lang_gates), ("spoondrift/lang.keywords", laid_spoondrift_lang_keywords)], narrowed := true }
def LangBegunUptoSaid : Prop := langBegunUptoRow.holds Tryz.pinned (OpenSpec.upto langBegunSpec)

/-- 'spoondriftlaw20.LangScoped', WHERE WHAT IT READS IS OF BULK AT MOST 1048576: true; the input reads as it did. -/
def langScopedUptoRow : OpenClaim := { program := "ytiigojkfojnedaagreatdoor", sum := "de6acb575d77bebe3ee50dee0b3e5c59fdbc8c635020e237108c6fce351b1a24", func := "spoondrift/spoondriftlaw20.LangScoped", spec := "langScoped", inPlace := ["maps.clone", "internal/bytealg.IndexByteString", "internal/abi.NoEscape", "internal/bytealg.MakeNoZero"], unfollowed := true, recurses := true, named := ["spoondrift/lang.gates", "spoondrift/lang.keywords", "strconv.ErrSyntax", "strconv.ErrRange", "internal/strconv.uint64pow10", "math/bits.deBruijn32tab", "math/bits.deBruijn64tab"], apart := false, laid := [("math/bits.deBruijn32tab", laid_math_bits_deBruijn32tab), ("math/bits.deBruijn64tab", laid_math_bits_deBruijn64tab), ("internal/strconv.uint64pow10", laid_internal_strconv_uint64pow10), ("strconv.ErrRange", laid_strconv_ErrRange), ("strconv.ErrSyntax", laid_strconv_ErrSyntax), ("spoondrift/lang.gates", laid_spoondrift_lang_gates), ("spoondrift/lang.keywords", laid_spoondrift_lang_keywords)], narrowed := true }
def LangScopedUptoSaid : Prop := langScopedUptoRow.holds Tryz.pinned (OpenSpec.upto langScopedSpec)

/-- 'spoondriftlaw20.LangTexts', WHERE WHAT IT READS IS OF BULK AT MOST 1048576: true; the input reads as it did. -/
def langTextsUptoRow : OpenClaim := { program := "ytiigojkfojnedaagreatdoor", sum := "de6acb575d77bebe3ee50dee0b3e5c59fdbc8c635020e237108c6fce351b1a24", func := "spoondrift/spoondriftlaw20.LangTexts", spec := "langTexts", inPlace := ["internal/bytealg.IndexByteString", "maps.clone", "internal/abi.NoEscape", "internal/bytealg.MakeNoZero"], unfollowed := true, recurses := true, named := ["spoondrift/lang.gates", "spoondrift/lang.keywords", "strconv.ErrSyntax", "strconv.ErrRange", "internal/strconv.uint64pow10", "math/bits.deBruijn32tab", "math/bits.deBruijn64tab"], apart := false, laid := [("math/bits.deBruijn32tab", laid_math_bits_deBruijn32tab), ("math/bits.deBruijn64tab", laid_math_bits_deBruijn64tab), ("internal/strconv.uint64pow10", laid_internal_strconv_uint64pow10), ("strconv.ErrRange", laid_strconv_ErrRange), ("strconv.ErrSyntax", laid_strconv_ErrSyntax), ("spoondrift/lang.gates", laid_spoondrift_lang_gates), ("spoondrift/lang.keywords", laid_spoondrift_lang_keywords)], narrowed := true }
def LangTextsUptoSaid : Prop := langTextsUptoRow.holds Tryz.pinned (OpenSpec.upto langTextsSpec)

/-- 'spoondriftlaw20.LangChanges', WHERE WHAT IT READS IS OF BULK AT MOST 1048576: true; the input reads as it did. -/
def langChangesUptoRow : OpenClaim := { program := "ytiigojkfojnedaagreatdoor", sum := "de6acb575d77bebe3ee50dee0b3e5c59fdbc8c635020e237108c6fce351b1a24", func := "spoondrift/spoondriftlaw20.LangChanges", spec := "langChanges", inPlace := ["internal/bytealg.IndexByteString", "maps.clone", "internal/abi.NoEscape", "internal/bytealg.MakeNoZero"], unfollowed := true, recurses := true, named := ["spoondrift/lang.gates", "spoondrift/lang.keywords", "strconv.ErrSyntax", "strconv.ErrRange", "internal/strconv.uint64pow10", "math/bits.deBruijn32tab", "math/bits.deBruijn64tab"], apart := false, laid := [("math/bits.deBruijn32tab", laid_math_bits_deBruijn32tab), ("math/bits.deBruijn64tab", laid_math_bits_deBruijn64tab), ("internal/strconv.uint64pow10", laid_internal_strconv_uint64pow10), ("strconv.ErrRange", laid_strconv_ErrRange), ("strconv.ErrSyntax", laid_strconv_ErrSyntax), ("spoondrift/lang.gates", laid_spoondrift_lang_gates), ("spoondrift/lang.keywords", laid_spoondrift_lang_keywords)], narrowed := true }
def LangChangesUptoSaid : Prop := langChangesUptoRow.holds Tryz.pinned (OpenSpec.upto langChangesSpec)

/-- 'spoondriftlaw20.LangOrdered', WHERE WHAT IT READS IS OF BULK AT MOST 1048576: true; the input reads as it did. -/
def langOrderedUptoRow : OpenClaim := { program := "ytiigojkfojnedaagreatdoor", sum := "de6acb575d77bebe3ee50dee0b3e5c59fdbc8c635020e237108c6fce351b1a24", func := "spoondrift/spoondriftlaw20.LangOrdered", spec := "langOrdered", inPlace := ["maps.clone", "internal/bytealg.IndexByteString", "internal/abi.NoEscape", "internal/bytealg.MakeNoZero"], unfollowed := true, recurses := true, named := ["spoondrift/lang.gates", "spoondrift/lang.keywords", "strconv.ErrSyntax", "strconv.ErrRange", "internal/strconv.uint64pow10", "math/bits.deBruijn32tab", "math/bits.deBruijn64tab"], apart := false, laid := [("math/bits.deBruijn32tab", laid_math_bits_deBruijn32tab), ("math/bits.deBruijn64tab", laid_math_bits_deBruijn64tab), ("internal/strconv.uint64pow10", laid_internal_strconv_uint64pow10), ("strconv.ErrRange", laid_strconv_ErrRange), ("strconv.ErrSyntax", laid_strconv_ErrSyntax), ("spoondrift/lang.gates", laid_spoondrift_lang_gates), ("spoondrift/lang.keywords", laid_spoondrift_lang_keywords)], narrowed := true }
def LangOrderedUptoSaid : Prop := langOrderedUptoRow.holds Tryz.pinned (OpenSpec.upto langOrderedSpec)

/-- 'spoondriftlaw20.LangWalked', WHERE WHAT IT READS IS OF BULK AT MOST 1048576: true; the input reads as it did. -/
def langWalkedUptoRow : OpenClaim := { program := "ytiigojkfojnedaagreatdoor", sum := "de6acb575d77bebe3ee50dee0b3e5c59fdbc8c635020e237108c6fce351b1a24", func := "spoondrift/spoondriftlaw20.LangWalked", spec := "langWalked", inPlace := ["maps.clone", "internal/abi.NoEscape", "internal/bytealg.MakeNoZero", "internal/bytealg.IndexByteString"], unfollowed := true, recurses := true, named := ["spoondrift/lang.gates", "spoondrift/lang.keywords", "internal/strconv.uint64pow10", "math/bits.deBruijn32tab", "math/bits.deBruijn64tab", "strconv.ErrSyntax", "strconv.ErrRange"], apart := false, laid := [("math/bits.deBruijn32tab", laid_math_bits_deBruijn32tab), ("math/bits.deBruijn64tab", laid_math_bits_deBruijn64tab), ("internal/strconv.uint64pow10", laid_internal_strconv_uint64pow10), ("strconv.ErrRange", laid_strconv_ErrRange), ("strconv.ErrSyntax", laid_strconv_ErrSyntax), ("spoondrift/lang.gates", laid_spoondrift_lang_gates), ("spoondrift/lang.keywords", laid_spoondrift_lang_keywords)], narrowed := true }
def LangWalkedUptoSaid : Prop := langWalkedUptoRow.holds Tryz.pinned (OpenSpec.upto langWalkedSpec)

/-- 'spoondriftlaw20.LangLaid', WHERE WHAT IT READS IS OF BULK AT MOST 1048576: true; the input reads as it did. -/
def langLaidUptoRow : OpenClaim := { program := "ytiigojkfojnedaagreatdoor", sum := "de6acb575d77bebe3ee50dee0b3e5c59fdbc8c635020e237108c6fce351b1a24", func := "spoondrift/spoondriftlaw20.LangLaid", spec := "langLaid", inPlace := ["maps.clone", "internal/abi.NoEscape", "internal/bytealg.MakeNoZero", "internal/bytealg.IndexByteString"], unfollowed := true, recurses := true, named := ["spoondrift/lang.gates", "spoondrift/lang.keywords", "internal/strconv.uint64pow10", "math/bits.deBruijn32tab", "math/bits.deBruijn64tab", "strconv.ErrSyntax", "strconv.ErrRange"], apart := false, laid := [("math/bits.deBruijn32tab", laid_math_bits_deBruijn32tab), ("math/bits.deBruijn64tab", laid_math_bits_deBruijn64tab), ("internal/strconv.uint64pow10", laid_internal_strconv_uint64pow10), ("strconv.ErrRange", laid_strconv_ErrRange), ("strconv.ErrSyntax", laid_strconv_ErrSyntax), ("spoondrift/lang.gates", laid_spoondrift_lang_gates), ("spoondrift/lang.keywords", laid_spoondrift_lang_keywords)], narrowed := true }
def LangLaidUptoSaid : Prop := langLaidUptoRow.holds Tryz.pinned (OpenSpec.upto langLaidSpec)

/-- 'spoondriftlaw20.LangTold', WHERE WHAT IT READS IS OF BULK AT MOST 1048576: true; the input reads as it did. -/
def langToldUptoRow : OpenClaim := { program := "ytiigojkfojnedaagreatdoor", sum := "de6acb575d77bebe3ee50dee0b3e5c59fdbc8c635020e237108c6fce351b1a24", func := "spoondrift/spoondriftlaw20.LangTold", spec := "langTold", inPlace := ["maps.clone", "internal/abi.NoEscape", "internal/bytealg.MakeNoZero", "internal/bytealg.IndexByteString"], unfollowed := true, recurses := true, named := ["spoondrift/lang.gates", "spoondrift/lang.keywords", "internal/strconv.uint64pow10", "math/bits.deBruijn32tab", "math/bits.deBruijn64tab", "strconv.ErrSyntax", "strconv.ErrRange"], apart := false, laid := [("math/bits.deBruijn32tab", laid_math_bits_deBruijn32tab), ("math/bits.deBruijn64tab", laid_math_bits_deBruijn64tab), ("internal/strconv.uint64pow10", laid_internal_strconv_uint64pow10), ("strconv.ErrRange", laid_strconv_ErrRange), ("strconv.ErrSyntax", laid_strconv_ErrSyntax), ("spoondrift/lang.gates", laid_spoondrift_lang_gates), ("spoondrift/lang.keywords", laid_spoondrift_lang_keywords)], narrowed := true }
def LangToldUptoSaid : Prop := langToldUptoRow.holds Tryz.pinned (OpenSpec.upto langToldSpec)

/-- 'spoondriftlaw20.LangChecks', WHERE WHAT IT READS IS OF BULK AT MOST 1048576: true; the input reads as it did. -/
def langChecksUptoRow : OpenClaim := { program := "ytiigojkfojnedaagreatdoor", sum := "de6acb575d77bebe3ee50dee0b3e5c59fdbc8c635020e237108c6fce351b1a24", func := "spoondrift/spoondriftlaw20.LangChecks", spec := "langChecks", inPlace := ["internal/bytealg.IndexByteString", "maps.clone", "internal/abi.NoEscape", "internal/bytealg.MakeNoZero"], unfollowed := true, recurses := true, named := ["spoondrift/lang.gates", "spoondrift/lang.keywords", "strconv.ErrSyntax", "strconv.ErrRange", "internal/strconv.uint64pow10", "math/bits.deBruijn32tab", "math/bits.deBruijn64tab"], loops := true, apart := false, laid := [("math/bits.deBruijn32tab", laid_math_bits_deBruijn32tab), ("math/bits.deBruijn64tab", laid_math_bits_deBruijn64tab), ("internal/strconv.uint64pow10", laid_internal_strconv_uint64pow10), ("strconv.ErrRange", laid_strconv_ErrRange), ("strconv.ErrSyntax", laid_strconv_ErrSyntax), ("spoondrift/lang.gates", laid_spoondrift_lang_gates), ("spoondrift/lang.keywords", laid_spoondrift_lang_keywords)], narrowed := true }
def LangChecksUptoSaid : Prop := langChecksUptoRow.holds Tryz.pinned (OpenSpec.upto langChecksSpec)

/-- 'spoondriftlaw20.LangPut', WHERE WHAT IT READS IS OF BULK AT MOST 1048576: true; the input reads as it did. -/
def langPutUptoRow : OpenClaim := { program := "ytiigojkfojnedaagreatdoor", sum := "de6acb575d77bebe3ee50dee0b3e5c59fdbc8c635020e237108c6fce351b1a24", func := "spoondrift/spoondriftlaw20.LangPut", spec := "langPut", inPlace := ["maps.clone", "internal/abi.NoEscape", "internal/bytealg.MakeNoZero", "internal/bytealg.IndexByteString"], unfollowed := true, recurses := true, named := ["spoondrift/lang.gates", "spoondrift/lang.keywords", "internal/strconv.uint64pow10", "math/bits.deBruijn32tab", "math/bits.deBruijn64tab", "strconv.ErrSyntax", "strconv.ErrRange"], apart := false, laid := [("math/bits.deBruijn32tab", laid_math_bits_deBruijn32tab), ("math/bits.deBruijn64tab", laid_math_bits_deBruijn64tab), ("internal/strconv.uint64pow10", laid_internal_strconv_uint64pow10), ("strconv.ErrRange", laid_strconv_ErrRange), ("strconv.ErrSyntax", laid_strconv_ErrSyntax), ("spoondrift/lang.gates", laid_spoondrift_lang_gates), ("spoondrift/lang.keywords", laid_spoondrift_lang_keywords)], narrowed := true }
def LangPutUptoSaid : Prop := langPutUptoRow.holds Tryz.pinned (OpenSpec.upto langPutSpec)

/-- 'spoondriftlaw20.LangValued', WHERE WHAT IT READS IS OF BULK AT MOST 1048576: true; the input reads as it did. -/
def langValuedUptoRow : OpenClaim := { program := "ytiigojkfojnedaagreatdoor", sum := "de6acb575d77bebe3ee50dee0b3e5c59fdbc8c635020e237108c6fce351b1a24", func := "spoondrift/spoondriftlaw20.LangValued", spec := "langValued", inPlace := ["internal/bytealg.IndexByteString", "maps.clone", "internal/abi.NoEscape", "internal/bytealg.MakeNoZero", "internal/bytealg.CountString", "internal/bytealg.IndexString"], unfollowed := true, recurses := true, named := ["spoondrift/lang.gates", "spoondrift/lang.keywords", "internal/strconv.uint64pow10", "math/bits.deBruijn32tab", "math/bits.deBruijn64tab", "strconv.ErrSyntax", "strconv.ErrRange", "internal/bytealg.MaxLen"], apart := false, laid := [("math/bits.deBruijn32tab", laid_math_bits_deBruijn32tab), ("math/bits.deBruijn64tab", laid_math_bits_deBruijn64tab), ("internal/strconv.uint64pow10", laid_internal_strconv_uint64pow10), ("strconv.ErrRange", laid_strconv_ErrRange), ("strconv.ErrSyntax", laid_strconv_ErrSyntax), ("spoondrift/lang.gates", laid_spoondrift_lang_gates), ("spoondrift/lang.keywords", laid_spoondrift_lang_keywords)], narrowed := true }
def LangValuedUptoSaid : Prop := langValuedUptoRow.holds Tryz.pinned (OpenSpec.upto langValuedSpec)

/-- 'spoondriftlaw20.LangSmall', WHERE WHAT IT READS IS OF BULK AT MOST 1048576: true; the input reads as it did. -/
def langSmallUptoRow : OpenClaim := { program := "ytiigojkfojnedaagreatdoor", sum := "de6acb575d77bebe3ee50dee0b3e5c59fdbc8c635020e237108c6fce351b1a24", func := "spoondrift/spoondriftlaw20.LangSmall", spec := "langSmall", inPlace := ["internal/bytealg.IndexByteString", "maps.clone", "internal/abi.NoEscape", "internal/bytealg.MakeNoZero", "internal/bytealg.CountString", "internal/bytealg.IndexString"], unfollowed := true, recurses := true, named := ["spoondrift/lang.gates", "spoondrift/lang.keywords", "strconv.ErrSyntax", "strconv.ErrRange", "internal/strconv.uint64pow10", "math/bits.deBruijn32tab", "math/bits.deBruijn64tab", "internal/bytealg.MaxLen", "unicode/utf8.first", "unicode/utf8.acceptRanges"], apart := false, laid := [("math/bits.deBruijn32tab", laid_math_bits_deBruijn32tab), ("math/bits.deBruijn64tab", laid_math_bits_deBruijn64tab), ("internal/strconv.uint64pow10", laid_internal_strconv_uint64pow10), ("unicode/utf8.acceptRanges", laid_unicode_utf8_acceptRanges), ("strconv.ErrRange", laid_strconv_ErrRange), ("strconv.ErrSyntax", laid_strconv_ErrSyntax), ("spoondrift/lang.gates", laid_spoondrift_lang_gates), ("spoondrift/lang.keywords", laid_spoondrift_lang_keywords), ("unicode/utf8.first", laid_unicode_utf8_first)], narrowed := true }
def LangSmallUptoSaid : Prop := langSmallUptoRow.holds Tryz.pinned (OpenSpec.upto langSmallSpec)

end Rows
end Go.Proofs.YtiigojkfojnedaaGreatDoor
