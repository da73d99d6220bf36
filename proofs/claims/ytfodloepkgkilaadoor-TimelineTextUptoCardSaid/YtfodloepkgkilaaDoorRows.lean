/-
  NARROWER THAN 'FOR EVERY INPUT', by the rows' own cells (each row's printed sentence says how): IdentTells: laid · IdentBack: laid · RedactTells: laid · RedactStable: laid · RedactApart: laid · EventTells: laid · EventBack: laid · TimelinePicks: laid · TimelineLater: laid · TimelineText: laid.
  DERIVED. THE GIVEN ROWS OF THIS SEAT. 10 by the template 'for every input the law returns true; each argument reads behind the call as it read before'; 0 by the template 'total and deterministic' (their statements: YtfodloepkgkilaaDoorTotals.lean).
  GIVEN WITH THE SEED: the statements are not yours to turn. If you find one false, say at which input.
  Laid BY PROGRAM, IN A SANDBOX (cutbox-rows.mjs): the forced cells as the released guide's own fill.sh prints them over the translation 7c2065a0b35ea8b5… (all of the seat's roots in one cut). By AI agents, Wed Nov 11 2026. No macro, syntax, notation, axiom, sorry.
-/
import Derived.Test.YtfodloepkgkilaaDoorChecked
import GoSem.Claim
import GoSem.ClaimJoined
import GoSem.ClaimMapViews
import Derived.JoinedTies
import Derived.KernelRfl
namespace Go.Proofs.YtfodloepkgkilaaDoor
/- THE CELL 'sum', in the pinned program and in every row, IS THE sha256 OF THE DUMP (.gsa) THAT YtfodloepkgkilaaDoorProg.lean LOADS. Nothing in Lean hashes anything: it is a label: what it is worth is what the hold of that sum in a sandbox is worth. -/
noncomputable def Tryd.pinned : Pinned := { name := "ytfodloepkgkilaadoor", sum := "7c2065a0b35ea8b579a74564a355c160182b71fdc337baa3056adc8f6c5f7993", checked := Tryd.checked }
namespace Rows
def none {H : Type} : Left H := { results := [], args := [] }

/- WHAT THE LISTED PACKAGE-LEVEL VARIABLES READ AS WHEN THE CALL BEGINS. Each datum BY PROGRAM (the guide's laid-datum.mjs) off the statement by which the dump's own 'gosem.cut.vars' lays the variable. In a bare row this is a premise. The card (YtfodloepkgkilaaDoorCards.lean) ties it to the program's text. -/
def laid_math_bits_deBruijn32tab {H : Type} : DataW H := .agg [.lit (.int .u8 0), .lit (.int .u8 1), .lit (.int .u8 28), .lit (.int .u8 2), .lit (.int .u8 29), .lit (.int .u8 14), .lit (.int .u8 24), .lit (.int .u8 3), .lit (.int .u8 30), .lit (.int .u8 22), .lit (.int .u8 20), .lit (.int .u8 15), .lit (.int .u8 25), .lit (.int .u8 17), .lit (.int .u8 4), .lit (.int .u8 8), .lit (.int .u8 31), .lit (.int .u8 27), .lit (.int .u8 13), .lit (.int .u8 23), .lit (.int .u8 21), .lit (.int .u8 19), .lit (.int .u8 16), .lit (.int .u8 7), .lit (.int .u8 26), .lit (.int .u8 12), .lit (.int .u8 18), .lit (.int .u8 6), .lit (.int .u8 11), .lit (.int .u8 5), .lit (.int .u8 10), .lit (.int .u8 9)]
def laid_math_bits_deBruijn64tab {H : Type} : DataW H := .agg [.lit (.int .u8 0), .lit (.int .u8 1), .lit (.int .u8 56), .lit (.int .u8 2), .lit (.int .u8 57), .lit (.int .u8 49), .lit (.int .u8 28), .lit (.int .u8 3), .lit (.int .u8 61), .lit (.int .u8 58), .lit (.int .u8 42), .lit (.int .u8 50), .lit (.int .u8 38), .lit (.int .u8 29), .lit (.int .u8 17), .lit (.int .u8 4), .lit (.int .u8 62), .lit (.int .u8 47), .lit (.int .u8 59), .lit (.int .u8 36), .lit (.int .u8 45), .lit (.int .u8 43), .lit (.int .u8 51), .lit (.int .u8 22), .lit (.int .u8 53), .lit (.int .u8 39), .lit (.int .u8 33), .lit (.int .u8 30), .lit (.int .u8 24), .lit (.int .u8 18), .lit (.int .u8 12), .lit (.int .u8 5), .lit (.int .u8 63), .lit (.int .u8 55), .lit (.int .u8 48), .lit (.int .u8 27), .lit (.int .u8 60), .lit (.int .u8 41), .lit (.int .u8 37), .lit (.int .u8 16), .lit (.int .u8 46), .lit (.int .u8 35), .lit (.int .u8 44), .lit (.int .u8 21), .lit (.int .u8 52), .lit (.int .u8 32), .lit (.int .u8 23), .lit (.int .u8 11), .lit (.int .u8 54), .lit (.int .u8 26), .lit (.int .u8 40), .lit (.int .u8 15), .lit (.int .u8 34), .lit (.int .u8 20), .lit (.int .u8 31), .lit (.int .u8 10), .lit (.int .u8 25), .lit (.int .u8 14), .lit (.int .u8 19), .lit (.int .u8 9), .lit (.int .u8 13), .lit (.int .u8 8), .lit (.int .u8 7), .lit (.int .u8 6)]
def laid_internal_strconv_uint64pow10 {H : Type} : DataW H := .agg [.lit (.int .u64 1), .lit (.int .u64 10), .lit (.int .u64 100), .lit (.int .u64 1000), .lit (.int .u64 10000), .lit (.int .u64 100000), .lit (.int .u64 1000000), .lit (.int .u64 10000000), .lit (.int .u64 100000000), .lit (.int .u64 1000000000), .lit (.int .u64 10000000000), .lit (.int .u64 100000000000), .lit (.int .u64 1000000000000), .lit (.int .u64 10000000000000), .lit (.int .u64 100000000000000), .lit (.int .u64 1000000000000000), .lit (.int .u64 10000000000000000), .lit (.int .u64 100000000000000000), .lit (.int .u64 1000000000000000000), .lit (.int .u64 10000000000000000000)]
def laid_strconv_ErrRange {H : Type} : DataW H := .iface "*errors.errorString" (.ptr (.agg [.lit (.string [118, 97, 108, 117, 101, 32, 111, 117, 116, 32, 111, 102, 32, 114, 97, 110, 103, 101])]))
def laid_strconv_ErrSyntax {H : Type} : DataW H := .iface "*errors.errorString" (.ptr (.agg [.lit (.string [105, 110, 118, 97, 108, 105, 100, 32, 115, 121, 110, 116, 97, 120])]))
def laid_palaver_ident_signs {H : Type} : DataW H := .agg [.lit (.string []), .lit (.string [64]), .lit (.string [33])]
def laid_palaver_sha_k {H : Type} : DataW H := .agg [.lit (.int .u32 1116352408), .lit (.int .u32 1899447441), .lit (.int .u32 3049323471), .lit (.int .u32 3921009573), .lit (.int .u32 961987163), .lit (.int .u32 1508970993), .lit (.int .u32 2453635748), .lit (.int .u32 2870763221), .lit (.int .u32 3624381080), .lit (.int .u32 310598401), .lit (.int .u32 607225278), .lit (.int .u32 1426881987), .lit (.int .u32 1925078388), .lit (.int .u32 2162078206), .lit (.int .u32 2614888103), .lit (.int .u32 3248222580), .lit (.int .u32 3835390401), .lit (.int .u32 4022224774), .lit (.int .u32 264347078), .lit (.int .u32 604807628), .lit (.int .u32 770255983), .lit (.int .u32 1249150122), .lit (.int .u32 1555081692), .lit (.int .u32 1996064986), .lit (.int .u32 2554220882), .lit (.int .u32 2821834349), .lit (.int .u32 2952996808), .lit (.int .u32 3210313671), .lit (.int .u32 3336571891), .lit (.int .u32 3584528711), .lit (.int .u32 113926993), .lit (.int .u32 338241895), .lit (.int .u32 666307205), .lit (.int .u32 773529912), .lit (.int .u32 1294757372), .lit (.int .u32 1396182291), .lit (.int .u32 1695183700), .lit (.int .u32 1986661051), .lit (.int .u32 2177026350), .lit (.int .u32 2456956037), .lit (.int .u32 2730485921), .lit (.int .u32 2820302411), .lit (.int .u32 3259730800), .lit (.int .u32 3345764771), .lit (.int .u32 3516065817), .lit (.int .u32 3600352804), .lit (.int .u32 4094571909), .lit (.int .u32 275423344), .lit (.int .u32 430227734), .lit (.int .u32 506948616), .lit (.int .u32 659060556), .lit (.int .u32 883997877), .lit (.int .u32 958139571), .lit (.int .u32 1322822218), .lit (.int .u32 1537002063), .lit (.int .u32 1747873779), .lit (.int .u32 1955562222), .lit (.int .u32 2024104815), .lit (.int .u32 2227730452), .lit (.int .u32 2361852424), .lit (.int .u32 2428436474), .lit (.int .u32 2756734187), .lit (.int .u32 3204031479), .lit (.int .u32 3329325298)]
def laid_palaver_sha_begin {H : Type} : DataW H := .agg [.lit (.int .u32 1779033703), .lit (.int .u32 3144134277), .lit (.int .u32 1013904242), .lit (.int .u32 2773480762), .lit (.int .u32 1359893119), .lit (.int .u32 2600822924), .lit (.int .u32 528734635), .lit (.int .u32 1541459225)]
def laid_palaver_event_words {H : Type} : DataW H := .agg [.lit (.string []), .lit (.string [99, 114, 101, 97, 116, 101]), .lit (.string [109, 101, 109, 98, 101, 114]), .lit (.string [112, 111, 119, 101, 114]), .lit (.string [114, 117, 108, 101]), .lit (.string [110, 97, 109, 101]), .lit (.string [109, 101, 115, 115, 97, 103, 101]), .lit (.string [114, 101, 100, 97, 99, 116]), .lit (.string [104, 97, 110, 100, 111, 118, 101, 114])]

/-- 'palaverlaw11.IdentTells': WHATEVER THE INPUT: true; the input reads as it did. -/
def identTellsSpec : ChangeSpec := { name := "identTells", fn := fun _ => fun
  | [d1, d2] => { results := [.lit (.bool true)], args := [d1, d2] }
  | _ => none }
def identTellsRow : OpenClaim := { program := "ytfodloepkgkilaadoor", sum := "7c2065a0b35ea8b579a74564a355c160182b71fdc337baa3056adc8f6c5f7993", func := "palaver/palaverlaw11.IdentTells", spec := "identTells", inPlace := ["internal/bytealg.IndexByteString", "internal/bytealg.IndexString"], recurses := true, named := ["palaver/ident.signs", "internal/strconv.uint64pow10", "math/bits.deBruijn32tab", "math/bits.deBruijn64tab", "internal/bytealg.MaxLen", "strconv.ErrSyntax", "strconv.ErrRange"], apart := false, laid := [("math/bits.deBruijn32tab", laid_math_bits_deBruijn32tab), ("math/bits.deBruijn64tab", laid_math_bits_deBruijn64tab), ("internal/strconv.uint64pow10", laid_internal_strconv_uint64pow10), ("strconv.ErrRange", laid_strconv_ErrRange), ("strconv.ErrSyntax", laid_strconv_ErrSyntax), ("palaver/ident.signs", laid_palaver_ident_signs)] }
def IdentTellsSaid : Prop := identTellsRow.holds Tryd.pinned (OpenSpec.ofChange identTellsSpec)

/-- ITS FALSE NEIGHBOUR: 'it returns false'. Refute it at one input. -/
def identTellsWrong : ChangeSpec := { name := "identTells", fn := fun _ => fun
  | [d1, d2] => { results := [.lit (.bool false)], args := [d1, d2] }
  | _ => none }
def IdentTellsWrongFalsely : Prop := identTellsRow.holds Tryd.pinned (OpenSpec.ofChange identTellsWrong)

/-- 'palaverlaw11.IdentBack': WHATEVER THE INPUT: true; the input reads as it did. -/
def identBackSpec : ChangeSpec := { name := "identBack", fn := fun _ => fun
  | [d1, d2] => { results := [.lit (.bool true)], args := [d1, d2] }
  | _ => none }
def identBackRow : OpenClaim := { program := "ytfodloepkgkilaadoor", sum := "7c2065a0b35ea8b579a74564a355c160182b71fdc337baa3056adc8f6c5f7993", func := "palaver/palaverlaw11.IdentBack", spec := "identBack", inPlace := ["internal/bytealg.IndexByteString", "internal/bytealg.IndexString"], named := ["palaver/ident.signs", "internal/strconv.uint64pow10", "math/bits.deBruijn32tab", "math/bits.deBruijn64tab", "internal/bytealg.MaxLen", "strconv.ErrSyntax", "strconv.ErrRange"], apart := false, laid := [("math/bits.deBruijn32tab", laid_math_bits_deBruijn32tab), ("math/bits.deBruijn64tab", laid_math_bits_deBruijn64tab), ("internal/strconv.uint64pow10", laid_internal_strconv_uint64pow10), ("strconv.ErrRange", laid_strconv_ErrRange), ("strconv.ErrSyntax", laid_strconv_ErrSyntax), ("palaver/ident.signs", laid_palaver_ident_signs)] }
def IdentBackSaid : Prop := identBackRow.holds Tryd.pinned (OpenSpec.ofChange identBackSpec)

/-- ITS FALSE NEIGHBOUR: 'it returns false'. Refute it at one input. -/
def identBackWrong : ChangeSpec := { name := "identBack", fn := fun _ => fun
  | [d1, d2] => { results := [.lit (.bool false)], args := [d1, d2] }
  | _ => none }
def IdentBackWrongFalsely : Prop := identBackRow.holds Tryd.pinned (OpenSpec.ofChange identBackWrong)

/-- 'palaverlaw13.RedactTells': WHATEVER THE INPUT: true; the input reads as it did. -/
def redactTellsSpec : ChangeSpec := { name := "redactTells", fn := fun _ => fun
  | [d] => { results := [.lit (.bool true)], args := [d] }
  | _ => none }
def redactTellsRow : OpenClaim := { program := "ytfodloepkgkilaadoor", sum := "7c2065a0b35ea8b579a74564a355c160182b71fdc337baa3056adc8f6c5f7993", func := "palaver/palaverlaw13.RedactTells", spec := "redactTells", inPlace := ["internal/bytealg.IndexByteString", "internal/bytealg.IndexString"], recurses := true, named := ["palaver/ident.signs", "internal/bytealg.MaxLen", "strconv.ErrSyntax", "strconv.ErrRange", "internal/strconv.uint64pow10", "math/bits.deBruijn32tab", "math/bits.deBruijn64tab", "palaver/event.words", "palaver/sha.begin", "palaver/sha.k"], apart := false, laid := [("math/bits.deBruijn32tab", laid_math_bits_deBruijn32tab), ("math/bits.deBruijn64tab", laid_math_bits_deBruijn64tab), ("internal/strconv.uint64pow10", laid_internal_strconv_uint64pow10), ("palaver/sha.k", laid_palaver_sha_k), ("palaver/sha.begin", laid_palaver_sha_begin), ("strconv.ErrRange", laid_strconv_ErrRange), ("strconv.ErrSyntax", laid_strconv_ErrSyntax), ("palaver/ident.signs", laid_palaver_ident_signs), ("palaver/event.words", laid_palaver_event_words)] }
def RedactTellsSaid : Prop := redactTellsRow.holds Tryd.pinned (OpenSpec.ofChange redactTellsSpec)

/-- ITS FALSE NEIGHBOUR: 'it returns false'. Refute it at one input. -/
def redactTellsWrong : ChangeSpec := { name := "redactTells", fn := fun _ => fun
  | [d] => { results := [.lit (.bool false)], args := [d] }
  | _ => none }
def RedactTellsWrongFalsely : Prop := redactTellsRow.holds Tryd.pinned (OpenSpec.ofChange redactTellsWrong)

/-- 'palaverlaw13.RedactStable': WHATEVER THE INPUT: true; the input reads as it did. -/
def redactStableSpec : ChangeSpec := { name := "redactStable", fn := fun _ => fun
  | [d] => { results := [.lit (.bool true)], args := [d] }
  | _ => none }
def redactStableRow : OpenClaim := { program := "ytfodloepkgkilaadoor", sum := "7c2065a0b35ea8b579a74564a355c160182b71fdc337baa3056adc8f6c5f7993", func := "palaver/palaverlaw13.RedactStable", spec := "redactStable", inPlace := ["internal/bytealg.IndexByteString", "internal/bytealg.IndexString"], named := ["palaver/ident.signs", "internal/bytealg.MaxLen", "strconv.ErrSyntax", "strconv.ErrRange", "internal/strconv.uint64pow10", "math/bits.deBruijn32tab", "math/bits.deBruijn64tab", "palaver/event.words", "palaver/sha.begin", "palaver/sha.k"], apart := false, laid := [("math/bits.deBruijn32tab", laid_math_bits_deBruijn32tab), ("math/bits.deBruijn64tab", laid_math_bits_deBruijn64tab), ("internal/strconv.uint64pow10", laid_internal_strconv_uint64pow10), ("palaver/sha.k", laid_palaver_sha_k), ("palaver/sha.begin", laid_palaver_sha_begin), ("strconv.ErrRange", laid_strconv_ErrRange), ("strconv.ErrSyntax", laid_strconv_ErrSyntax), ("palaver/ident.signs", laid_palaver_ident_signs), ("palaver/event.words", laid_palaver_event_words)] }
def RedactStableSaid : Prop := redactStableRow.holds Tryd.pinned (OpenSpec.ofChange redactStableSpec)

/-- ITS FALSE NEIGHBOUR: 'it returns false'. Refute it at one input. -/
def redactStableWrong : ChangeSpec := { name := "redactStable", fn := fun _ => fun
  | [d] => { results := [.lit (.bool false)], args := [d] }
  | _ => none }
def RedactStableWrongFalsely : Prop := redactStableRow.holds Tryd.pinned (OpenSpec.ofChange redactStableWrong)

/-- 'palaverlaw13.RedactApart': WHATEVER THE INPUT: true; the input reads as it did. -/
def redactApartSpec : ChangeSpec := { name := "redactApart", fn := fun _ => fun
  | [d1, d2] => { results := [.lit (.bool true)], args := [d1, d2] }
  | _ => none }
def redactApartRow : OpenClaim := { program := "ytfodloepkgkilaadoor", sum := "7c2065a0b35ea8b579a74564a355c160182b71fdc337baa3056adc8f6c5f7993", func := "palaver/palaverlaw13.RedactApart", spec := "redactApart", inPlace := ["internal/bytealg.IndexByteString", "internal/bytealg.IndexString"], recurses := true, named := ["palaver/ident.signs", "internal/bytealg.MaxLen", "strconv.ErrSyntax", "strconv.ErrRange", "internal/strconv.uint64pow10", "math/bits.deBruijn32tab", "math/bits.deBruijn64tab", "palaver/event.words", "palaver/sha.begin", "palaver/sha.k"], apart := false, laid := [("math/bits.deBruijn32tab", laid_math_bits_deBruijn32tab), ("math/bits.deBruijn64tab", laid_math_bits_deBruijn64tab), ("internal/strconv.uint64pow10", laid_internal_strconv_uint64pow10), ("palaver/sha.k", laid_palaver_sha_k), ("palaver/sha.begin", laid_palaver_sha_begin), ("strconv.ErrRange", laid_strconv_ErrRange), ("strconv.ErrSyntax", laid_strconv_ErrSyntax), ("palaver/ident.signs", laid_palaver_ident_signs), ("palaver/event.words", laid_palaver_event_words)] }
def RedactApartSaid : Prop := redactApartRow.holds Tryd.pinned (OpenSpec.ofChange redactApartSpec)

/-- ITS FALSE NEIGHBOUR: 'it returns false'. Refute it at one input. -/
def redactApartWrong : ChangeSpec := { name := "redactApart", fn := fun _ => fun
  | [d1, d2] => { results := [.lit (.bool false)], args := [d1, d2] }
  | _ => none }
def RedactApartWrongFalsely : Prop := redactApartRow.holds Tryd.pinned (OpenSpec.ofChange redactApartWrong)

/-- 'palaverlaw12.EventTells': WHATEVER THE INPUT: true; the input reads as it did. -/
def eventTellsSpec : ChangeSpec := { name := "eventTells", fn := fun _ => fun
  | [d1, d2, d3] => { results := [.lit (.bool true)], args := [d1, d2, d3] }
  | _ => none }
def eventTellsRow : OpenClaim := { program := "ytfodloepkgkilaadoor", sum := "7c2065a0b35ea8b579a74564a355c160182b71fdc337baa3056adc8f6c5f7993", func := "palaver/palaverlaw12.EventTells", spec := "eventTells", inPlace := ["internal/bytealg.IndexByteString", "internal/bytealg.IndexString"], unfollowed := true, recurses := true, named := ["palaver/event.words", "palaver/ident.signs", "internal/bytealg.MaxLen", "strconv.ErrSyntax", "strconv.ErrRange", "internal/strconv.uint64pow10", "math/bits.deBruijn32tab", "math/bits.deBruijn64tab"], apart := false, laid := [("math/bits.deBruijn32tab", laid_math_bits_deBruijn32tab), ("math/bits.deBruijn64tab", laid_math_bits_deBruijn64tab), ("internal/strconv.uint64pow10", laid_internal_strconv_uint64pow10), ("strconv.ErrRange", laid_strconv_ErrRange), ("strconv.ErrSyntax", laid_strconv_ErrSyntax), ("palaver/ident.signs", laid_palaver_ident_signs), ("palaver/event.words", laid_palaver_event_words)] }
def EventTellsSaid : Prop := eventTellsRow.holds Tryd.pinned (OpenSpec.ofChange eventTellsSpec)

/-- ITS FALSE NEIGHBOUR: 'it returns false'. Refute it at one input. -/
def eventTellsWrong : ChangeSpec := { name := "eventTells", fn := fun _ => fun
  | [d1, d2, d3] => { results := [.lit (.bool false)], args := [d1, d2, d3] }
  | _ => none }
def EventTellsWrongFalsely : Prop := eventTellsRow.holds Tryd.pinned (OpenSpec.ofChange eventTellsWrong)

/-- 'palaverlaw12.EventBack': WHATEVER THE INPUT: true; the input reads as it did. -/
def eventBackSpec : ChangeSpec := { name := "eventBack", fn := fun _ => fun
  | [d1, d2] => { results := [.lit (.bool true)], args := [d1, d2] }
  | _ => none }
def eventBackRow : OpenClaim := { program := "ytfodloepkgkilaadoor", sum := "7c2065a0b35ea8b579a74564a355c160182b71fdc337baa3056adc8f6c5f7993", func := "palaver/palaverlaw12.EventBack", spec := "eventBack", inPlace := ["internal/bytealg.IndexByteString", "internal/bytealg.IndexString"], unfollowed := true, recurses := true, named := ["palaver/event.words", "palaver/ident.signs", "internal/bytealg.MaxLen", "strconv.ErrSyntax", "strconv.ErrRange", "internal/strconv.uint64pow10", "math/bits.deBruijn32tab", "math/bits.deBruijn64tab"], apart := false, laid := [("math/bits.deBruijn32tab", laid_math_bits_deBruijn32tab), ("math/bits.deBruijn64tab", laid_math_bits_deBruijn64tab), ("internal/strconv.uint64pow10", laid_internal_strconv_uint64pow10), ("strconv.ErrRange", laid_strconv_ErrRange), ("strconv.ErrSyntax", laid_strconv_ErrSyntax), ("palaver/ident.signs", laid_palaver_ident_signs), ("palaver/event.words", laid_palaver_event_words)] }
def EventBackSaid : Prop := eventBackRow.holds Tryd.pinned (OpenSpec.ofChange eventBackSpec)

/-- ITS FALSE NEIGHBOUR: 'it returns false'. Refute it at one input. -/
def eventBackWrong : ChangeSpec := { name := "eventBack", fn := fun _ => fun
  | [d1, d2] => { results := [.lit (.bool false)], args := [d1, d2] }
  | _ => none }
def EventBackWrongFalsely : Prop := eventBackRow.holds Tryd.pinned (OpenSpec.ofChange eventBackWrong)

/-- 'palaverlaw38.TimelinePicks': WHATEVER THE INPUT: true; the input reads as it did. -/
def timelinePicksSpec : ChangeSpec := { name := "timelinePicks", fn := fun _ => fun
  | [d1, d2, d3] => { results := [.lit (.bool true)], args := [d1, d2, d3] }
  | _ => none }
def timelinePicksRow : OpenClaim := { program := "ytfodloepkgkilaadoor", sum := "7c2065a0b35ea8b579a74564a355c160182b71fdc337baa3056adc8f6c5f7993", func := "palaver/palaverlaw38.TimelinePicks", spec := "timelinePicks", inPlace := ["internal/bytealg.IndexByteString", "internal/bytealg.IndexString"], unfollowed := true, recurses := true, named := ["palaver/ident.signs", "internal/bytealg.MaxLen", "strconv.ErrSyntax", "strconv.ErrRange", "internal/strconv.uint64pow10", "math/bits.deBruijn32tab", "math/bits.deBruijn64tab", "palaver/event.words", "palaver/sha.begin", "palaver/sha.k"], apart := false, laid := [("math/bits.deBruijn32tab", laid_math_bits_deBruijn32tab), ("math/bits.deBruijn64tab", laid_math_bits_deBruijn64tab), ("internal/strconv.uint64pow10", laid_internal_strconv_uint64pow10), ("palaver/sha.k", laid_palaver_sha_k), ("palaver/sha.begin", laid_palaver_sha_begin), ("strconv.ErrRange", laid_strconv_ErrRange), ("strconv.ErrSyntax", laid_strconv_ErrSyntax), ("palaver/ident.signs", laid_palaver_ident_signs), ("palaver/event.words", laid_palaver_event_words)] }
def TimelinePicksSaid : Prop := timelinePicksRow.holds Tryd.pinned (OpenSpec.ofChange timelinePicksSpec)

/-- ITS FALSE NEIGHBOUR: 'it returns false'. Refute it at one input. -/
def timelinePicksWrong : ChangeSpec := { name := "timelinePicks", fn := fun _ => fun
  | [d1, d2, d3] => { results := [.lit (.bool false)], args := [d1, d2, d3] }
  | _ => none }
def TimelinePicksWrongFalsely : Prop := timelinePicksRow.holds Tryd.pinned (OpenSpec.ofChange timelinePicksWrong)

/-- 'palaverlaw38.TimelineLater': WHATEVER THE INPUT: true; the input reads as it did. -/
def timelineLaterSpec : ChangeSpec := { name := "timelineLater", fn := fun _ => fun
  | [d1, d2] => { results := [.lit (.bool true)], args := [d1, d2] }
  | _ => none }
def timelineLaterRow : OpenClaim := { program := "ytfodloepkgkilaadoor", sum := "7c2065a0b35ea8b579a74564a355c160182b71fdc337baa3056adc8f6c5f7993", func := "palaver/palaverlaw38.TimelineLater", spec := "timelineLater", inPlace := ["internal/bytealg.IndexByteString", "internal/bytealg.IndexString"], unfollowed := true, recurses := true, named := ["palaver/ident.signs", "internal/bytealg.MaxLen", "strconv.ErrSyntax", "strconv.ErrRange", "internal/strconv.uint64pow10", "math/bits.deBruijn32tab", "math/bits.deBruijn64tab", "palaver/event.words", "palaver/sha.begin", "palaver/sha.k"], apart := false, laid := [("math/bits.deBruijn32tab", laid_math_bits_deBruijn32tab), ("math/bits.deBruijn64tab", laid_math_bits_deBruijn64tab), ("internal/strconv.uint64pow10", laid_internal_strconv_uint64pow10), ("palaver/sha.k", laid_palaver_sha_k), ("palaver/sha.begin", laid_palaver_sha_begin), ("strconv.ErrRange", laid_strconv_ErrRange), ("strconv.ErrSyntax", laid_strconv_ErrSyntax), ("palaver/ident.signs", laid_palaver_ident_signs), ("palaver/event.words", laid_palaver_event_words)] }
def TimelineLaterSaid : Prop := timelineLaterRow.holds Tryd.pinned (OpenSpec.ofChange timelineLaterSpec)

/-- ITS FALSE NEIGHBOUR: 'it returns false'. Refute it at one input. -/
def timelineLaterWrong : ChangeSpec := { name := "timelineLater", fn := fun _ => fun
  | [d1, d2] => { results := [.lit (.bool false)], args := [d1, d2] }
  | _ => none }
def TimelineLaterWrongFalsely : Prop := timelineLaterRow.holds Tryd.pinned (OpenSpec.ofChange timelineLaterWrong)

/-- 'palaverlaw38.TimelineText': WHATEVER THE INPUT: true; the input reads as it did. -/
def timelineTextSpec : ChangeSpec := { name := "timelineText", fn := fun _ => fun
  | [d] => { results := [.lit (.bool true)], args := [d] }
  | _ => none }
def timelineTextRow : OpenClaim := { program := "ytfodloepkgkilaadoor", sum := "7c2065a0b35ea8b579a74564a355c160182b71fdc337baa3056adc8f6c5f7993", func := "palaver/palaverlaw38.TimelineText", spec := "timelineText", inPlace := ["internal/bytealg.IndexByteString", "internal/bytealg.IndexString"], unfollowed := true, recurses := true, named := ["palaver/ident.signs", "internal/bytealg.MaxLen", "strconv.ErrSyntax", "strconv.ErrRange", "internal/strconv.uint64pow10", "math/bits.deBruijn32tab", "math/bits.deBruijn64tab", "palaver/event.words", "palaver/sha.begin", "palaver/sha.k"], apart := false, laid := [("math/bits.deBruijn32tab", laid_math_bits_deBruijn32tab), ("math/bits.deBruijn64tab", laid_math_bits_deBruijn64tab), ("internal/strconv.uint64pow10", laid_internal_strconv_uint64pow10), ("palaver/sha.k", laid_palaver_sha_k), ("palaver/sha.begin", laid_palaver_sha_begin), ("strconv.ErrRange", laid_strconv_ErrRange), ("strconv.ErrSyntax", laid_strconv_ErrSyntax), ("palaver/ident.signs", laid_palaver_ident_signs), ("palaver/event.words", laid_palaver_event_words)] }
def TimelineTextSaid : Prop := timelineTextRow.holds Tryd.pinned (OpenSpec.ofChange timelineTextSpec)

/-- ITS FALSE NEIGHBOUR: 'it returns false'. Refute it at one input. -/
def timelineTextWrong : ChangeSpec := { name := "timelineText", fn := fun _ => fun
  | [d] => { results := [.lit (.bool false)], args := [d] }
  | _ => none }
def TimelineTextWrongFalsely : Prop := timelineTextRow.holds Tryd.pinned (OpenSpec.ofChange timelineTextWrong)

/- THE SECOND FORM. 'bulk': how many values and letters a reading holds, each counted each time it is reached (what is shared counts as often as it is met; a slice's spare places count too). A statement '..UptoSaid' is the law's where the arguments, and the package variables that the reading takes, are together of bulk at most 1048576: NARROWER than '..Said'. Prove '..Said' where nothing that the law and all that it calls make is longer than what came in: it says more and counts as full. Else prove '..UptoSaid'. A law counts once. -/
mutual
def uptoBulk {H : Type} : DataW H → Nat
  | .lit (.string bytes) => bytes.length + 1
  | .lit _ => 1
  | .nil => 1
  | .ptr d => uptoBulk d + 1
  | .slice elems spare => uptoBulkAll elems + uptoBulkAll spare + 1
  | .agg parts => uptoBulkAll parts + 1
  | .iface _ d => uptoBulk d + 1
  | .map entries => uptoBulkEntries entries + 1
  | .held _ => 1
def uptoBulkAll {H : Type} : List (DataW H) → Nat
  | [] => 0
  | d :: r => uptoBulk d + uptoBulkAll r
def uptoBulkEntries {H : Type} : List (Lit × DataW H) → Nat
  | [] => 0
  | x :: r => uptoBulkEntry x + uptoBulkEntries r
def uptoBulkEntry {H : Type} : Lit × DataW H → Nat
  | (.string bytes, d) => bytes.length + uptoBulk d + 1
  | (_, d) => uptoBulk d + 1
 end
def uptoSmall : (H : Type) → List (DataW H) → Bool := fun _ ds => decide (uptoBulkAll ds ≤ 1048576)
def OpenSpec.upto (s : _root_.Go.ChangeSpec) : _root_.Go.OpenSpec := { _root_.Go.OpenSpec.ofChange s with cond := some uptoSmall }

/-- 'palaverlaw11.IdentTells', WHERE WHAT IT READS IS OF BULK AT MOST 1048576: true; the input reads as it did. -/
def identTellsUptoRow : OpenClaim := { program := "ytfodloepkgkilaadoor", sum := "7c2065a0b35ea8b579a74564a355c160182b71fdc337baa3056adc8f6c5f7993", func := "palaver/palaverlaw11.IdentTells", spec := "identTells", inPlace := ["internal/bytealg.IndexByteString", "internal/bytealg.IndexString"], recurses := true, named := ["palaver/ident.signs", "internal/strconv.uint64pow10", "math/bits.deBruijn32tab", "math/bits.deBruijn64tab", "internal/bytealg.MaxLen", "strconv.ErrSyntax", "strconv.ErrRange"], apart := false, laid := [("math/bits.deBruijn32tab", laid_math_bits_deBruijn32tab), ("math/bits.deBruijn64tab", laid_math_bits_deBruijn64tab), ("internal/strconv.uint64pow10", laid_internal_strconv_uint64pow10), ("strconv.ErrRange", laid_strconv_ErrRange), ("strconv.ErrSyntax", laid_strconv_ErrSyntax), ("palaver/ident.signs", laid_palaver_ident_signs)], narrowed := true }
def IdentTellsUptoSaid : Prop := identTellsUptoRow.holds Tryd.pinned (OpenSpec.upto identTellsSpec)

/-- 'palaverlaw11.IdentBack', WHERE WHAT IT READS IS OF BULK AT MOST 1048576: true; the input reads as it did. -/
def identBackUptoRow : OpenClaim := { program := "ytfodloepkgkilaadoor", sum := "7c2065a0b35ea8b579a74564a355c160182b71fdc337baa3056adc8f6c5f7993", func := "palaver/palaverlaw11.IdentBack", spec := "identBack", inPlace := ["internal/bytealg.IndexByteString", "internal/bytealg.IndexString"], named := ["palaver/ident.signs", "internal/strconv.uint64pow10", "math/bits.deBruijn32tab", "math/bits.deBruijn64tab", "internal/bytealg.MaxLen", "strconv.ErrSyntax", "strconv.ErrRange"], apart := false, laid := [("math/bits.deBruijn32tab", laid_math_bits_deBruijn32tab), ("math/bits.deBruijn64tab", laid_math_bits_deBruijn64tab), ("internal/strconv.uint64pow10", laid_internal_strconv_uint64pow10), ("strconv.ErrRange", laid_strconv_ErrRange), ("strconv.ErrSyntax", laid_strconv_ErrSyntax), ("palaver/ident.signs", laid_palaver_ident_signs)], narrowed := true }
def IdentBackUptoSaid : Prop := identBackUptoRow.holds Tryd.pinned (OpenSpec.upto identBackSpec)

/-- 'palaverlaw13.RedactTells', WHERE WHAT IT READS IS OF BULK AT MOST 1048576: true; the input reads as it did. -/
def redactTellsUptoRow : OpenClaim := { program := "ytfodloepkgkilaadoor", sum := "7c2065a0b35ea8b579a74564a355c160182b71fdc337baa3056adc8f6c5f7993", func := "palaver/palaverlaw13.RedactTells", spec := "redactTells", inPlace := ["internal/bytealg.IndexByteString", "internal/bytealg.IndexString"], recurses := true, named := ["palaver/ident.signs", "internal/bytealg.MaxLen", "strconv.ErrSyntax", "strconv.ErrRange", "internal/strconv.uint64pow10", "math/bits.deBruijn32tab", "math/bits.deBruijn64tab", "palaver/event.words", "palaver/sha.begin", "palaver/sha.k"], apart := false, laid := [("math/bits.deBruijn32tab", laid_math_bits_deBruijn32tab), ("math/bits.deBruijn64tab", laid_math_bits_deBruijn64tab), ("internal/strconv.uint64pow10", laid_internal_strconv_uint64pow10), ("palaver/sha.k", laid_palaver_sha_k), ("palaver/sha.begin", laid_palaver_sha_begin), ("strconv.ErrRange", laid_strconv_ErrRange), ("strconv.ErrSyntax", laid_strconv_ErrSyntax), ("palaver/ident.signs", laid_palaver_ident_signs), ("palaver/event.words", laid_palaver_event_words)], narrowed := true }
def RedactTellsUptoSaid : Prop := redactTellsUptoRow.holds Tryd.pinned (OpenSpec.upto redactTellsSpec)

/-- 'palaverlaw13.RedactStable', WHERE WHAT IT READS IS OF BULK AT MOST 1048576: true; the input reads as it did. -/
def redactStableUptoRow : OpenClaim := { program := "ytfodloepkgkilaadoor", sum := "7c2065a0b35ea8b579a74564a355c160182b71fdc337baa3056adc8f6c5f7993", func := "palaver/palaverlaw13.RedactStable", spec := "redactStable", inPlace := ["internal/bytealg.IndexByteString", "internal/bytealg.IndexString"], named := ["palaver/ident.signs", "internal/bytealg.MaxLen", "strconv.ErrSyntax", "strconv.ErrRange", "internal/strconv.uint64pow10", "math/bits.deBruijn32tab", "math/bits.deBruijn64tab", "palaver/event.words", "palaver/sha.begin", "palaver/sha.k"], apart := false, laid := [("math/bits.deBruijn32tab", laid_math_bits_deBruijn32tab), ("math/bits.deBruijn64tab", laid_math_bits_deBruijn64tab), ("internal/strconv.uint64pow10", laid_internal_strconv_uint64pow10), ("palaver/sha.k", laid_palaver_sha_k), ("palaver/sha.begin", laid_palaver_sha_begin), ("strconv.ErrRange", laid_strconv_ErrRange), ("strconv.ErrSyntax", laid_strconv_ErrSyntax), ("palaver/ident.signs", laid_palaver_ident_signs), ("palaver/event.words", laid_palaver_event_words)], narrowed := true }
def RedactStableUptoSaid : Prop := redactStableUptoRow.holds Tryd.pinned (OpenSpec.upto redactStableSpec)

/-- 'palaverlaw13.RedactApart', WHERE WHAT IT READS IS OF BULK AT MOST 1048576: true; the input reads as it did. -/
def redactApartUptoRow : OpenClaim := { program := "ytfodloepkgkilaadoor", sum := "7c2065a0b35ea8b579a74564a355c160182b71fdc337baa3056adc8f6c5f7993", func := "palaver/palaverlaw13.RedactApart", spec := "redactApart", inPlace := ["internal/bytealg.IndexByteString", "internal/bytealg.IndexString"], recurses := true, named := ["palaver/ident.signs", "internal/bytealg.MaxLen", "strconv.ErrSyntax", "strconv.ErrRange", "internal/strconv.uint64pow10", "math/bits.deBruijn32tab", "math/bits.deBruijn64tab", "palaver/event.words", "palaver/sha.begin", "palaver/sha.k"], apart := false, laid := [("math/bits.deBruijn32tab", laid_math_bits_deBruijn32tab), ("math/bits.deBruijn64tab", laid_math_bits_deBruijn64tab), ("internal/strconv.uint64pow10", laid_internal_strconv_uint64pow10), ("palaver/sha.k", laid_palaver_sha_k), ("palaver/sha.begin", laid_palaver_sha_begin), ("strconv.ErrRange", laid_strconv_ErrRange), ("strconv.ErrSyntax", laid_strconv_ErrSyntax), ("palaver/ident.signs", laid_palaver_ident_signs), ("palaver/event.words", laid_palaver_event_words)], narrowed := true }
def RedactApartUptoSaid : Prop := redactApartUptoRow.holds Tryd.pinned (OpenSpec.upto redactApartSpec)

/-- 'palaverlaw12.EventTells', WHERE WHAT IT READS IS OF BULK AT MOST 1048576: true; the input reads as it did. -/
def eventTellsUptoRow : OpenClaim := { program := "ytfodloepkgkilaadoor", sum := "7c2065a0b35ea8b579a74564a355c160182b71fdc337baa3056adc8f6c5f7993", func := "palaver/palaverlaw12.EventTells", spec := "eventTells", inPlace := ["internal/bytealg.IndexByteString", "internal/bytealg.IndexString"], unfollowed := true, recurses := true, named := ["palaver/event.words", "palaver/ident.signs", "internal/bytealg.MaxLen", "strconv.ErrSyntax", "strconv.ErrRange", "internal/strconv.uint64pow10", "math/bits.deBruijn32tab", "math/bits.deBruijn64tab"], apart := false, laid := [("math/bits.deBruijn32tab", laid_math_bits_deBruijn32tab), ("math/bits.deBruijn64tab", laid_math_bits_deBruijn64tab), ("internal/strconv.uint64pow10", laid_internal_strconv_uint64pow10), ("strconv.ErrRange", laid_strconv_ErrRange), ("strconv.ErrSyntax", laid_strconv_ErrSyntax), ("palaver/ident.signs", laid_palaver_ident_signs), ("palaver/event.words", laid_palaver_event_words)], narrowed := true }
def EventTellsUptoSaid : Prop := eventTellsUptoRow.holds Tryd.pinned (OpenSpec.upto eventTellsSpec)

/-- 'palaverlaw12.EventBack', WHERE WHAT IT READS IS OF BULK AT MOST 1048576: true; the input reads as it did. -/
def eventBackUptoRow : OpenClaim := { program := "ytfodloepkgkilaadoor", sum := "7c2065a0b35ea8b579a74564a355c160182b71fdc337baa3056adc8f6c5f7993", func := "palaver/palaverlaw12.EventBack", spec := "eventBack", inPlace := ["internal/bytealg.IndexByteString", "internal/bytealg.IndexString"], unfollowed := true, recurses := true, named := ["palaver/event.words", "palaver/ident.signs", "internal/bytealg.MaxLen", "strconv.ErrSyntax", "strconv.ErrRange", "internal/strconv.uint64pow10", "math/bits.deBruijn32tab", "math/bits.deBruijn64tab"], apart := false, laid := [("math/bits.deBruijn32tab", laid_math_bits_deBruijn32tab), ("math/bits.deBruijn64tab", laid_math_bits_deBruijn64tab), ("internal/strconv.uint64pow10", laid_internal_strconv_uint64pow10), ("strconv.ErrRange", laid_strconv_ErrRange), ("strconv.ErrSyntax", laid_strconv_ErrSyntax), ("palaver/ident.signs", laid_palaver_ident_signs), ("palaver/event.words", laid_palaver_event_words)], narrowed := true }
def EventBackUptoSaid : Prop := eventBackUptoRow.holds Tryd.pinned (OpenSpec.upto eventBackSpec)

/-- 'palaverlaw38.TimelinePicks', WHERE WHAT IT READS IS OF BULK AT MOST 1048576: true; the input reads as it did. -/
def timelinePicksUptoRow : OpenClaim := { program := "ytfodloepkgkilaadoor", sum := "7c2065a0b35ea8b579a74564a355c160182b71fdc337baa3056adc8f6c5f7993", func := "palaver/palaverlaw38.TimelinePicks", spec := "timelinePicks", inPlace := ["internal/bytealg.IndexByteString", "internal/bytealg.IndexString"], unfollowed := true, recurses := true, named := ["palaver/ident.signs", "internal/bytealg.MaxLen", "strconv.ErrSyntax", "strconv.ErrRange", "internal/strconv.uint64pow10", "math/bits.deBruijn32tab", "math/bits.deBruijn64tab", "palaver/event.words", "palaver/sha.begin", "palaver/sha.k"], apart := false, laid := [("math/bits.deBruijn32tab", laid_math_bits_deBruijn32tab), ("math/bits.deBruijn64tab", laid_math_bits_deBruijn64tab), ("internal/strconv.uint64pow10", laid_internal_strconv_uint64pow10), ("palaver/sha.k", laid_palaver_sha_k), ("palaver/sha.begin", laid_palaver_sha_begin), ("strconv.ErrRange", laid_strconv_ErrRange), ("strconv.ErrSyntax", laid_strconv_ErrSyntax), ("palaver/ident.signs", laid_palaver_ident_signs), ("palaver/event.words", laid_palaver_event_words)], narrowed := true }
def TimelinePicksUptoSaid : Prop := timelinePicksUptoRow.holds Tryd.pinned (OpenSpec.upto timelinePicksSpec)

/-- 'palaverlaw38.TimelineLater', WHERE WHAT IT READS IS OF BULK AT MOST 1048576: true; the input reads as it did. -/
def timelineLaterUptoRow : OpenClaim := { program := "ytfodloepkgkilaadoor", sum := "7c2065a0b35ea8b579a74564a355c160182b71fdc337baa3056adc8f6c5f7993", func := "palaver/palaverlaw38.TimelineLater", spec := "timelineLater", inPlace := ["internal/bytealg.IndexByteString", "internal/bytealg.IndexString"], unfollowed := true, recurses := true, named := ["palaver/ident.signs", "internal/bytealg.MaxLen", "strconv.ErrSyntax", "strconv.ErrRange", "internal/strconv.uint64pow10", "math/bits.deBruijn32tab", "math/bits.deBruijn64tab", "palaver/event.words", "palaver/sha.begin", "palaver/sha.k"], apart := false, laid := [("math/bits.deBruijn32tab", laid_math_bits_deBruijn32tab), ("math/bits.deBruijn64tab", laid_math_bits_deBruijn64tab), ("internal/strconv.uint64pow10", laid_internal_strconv_uint64pow10), ("palaver/sha.k", laid_palaver_sha_k), ("palaver/sha.begin", laid_palaver_sha_begin), ("strconv.ErrRange", laid_strconv_ErrRange), ("strconv.ErrSyntax", laid_strconv_ErrSyntax), ("palaver/ident.signs", laid_palaver_ident_signs), ("palaver/event.words", laid_palaver_event_words)], narrowed := true }
def TimelineLaterUptoSaid : Prop := timelineLaterUptoRow.holds Tryd.pinned (OpenSpec.upto timelineLaterSpec)

/-- 'palaverlaw38.TimelineText', WHERE WHAT IT READS IS OF BULK AT MOST 1048576: true; the input reads as it did. -/
def timelineTextUptoRow : OpenClaim := { program := "ytfodloepkgkilaadoor", sum := "7c2065a0b35ea8b579a74564a355c160182b71fdc337baa3056adc8f6c5f7993", func := "palaver/palaverlaw38.TimelineText", spec := "timelineText", inPlace := ["internal/bytealg.IndexByteString", "internal/bytealg.IndexString"], unfollowed := true, recurses := true, named := ["palaver/ident.signs", "internal/bytealg.MaxLen", "strconv.ErrSyntax", "strconv.ErrRange", "internal/strconv.uint64pow10", "math/bits.deBruijn32tab", "math/bits.deBruijn64tab", "palaver/event.words", "palaver/sha.begin", "palaver/sha.k"], apart := false, laid := [("math/bits.deBruijn32tab", laid_math_bits_deBruijn32tab), ("math/bits.deBruijn64tab", laid_math_bits_deBruijn64tab), ("internal/strconv.uint64pow10", laid_internal_strconv_uint64pow10), ("palaver/sha.k", laid_palaver_sha_k), ("palaver/sha.begin", laid_palaver_sha_begin), ("strconv.ErrRange", laid_strconv_ErrRange), ("strconv.ErrSyntax", laid_strconv_ErrSyntax), ("palaver/ident.signs", laid_palaver_ident_signs), ("palaver/event.words", laid_palaver_event_words)], narrowed := true }
def TimelineTextUptoSaid : Prop := timelineTextUptoRow.holds Tryd.pinned (OpenSpec.upto timelineTextSpec)

end Rows
end Go.Proofs.YtfodloepkgkilaaDoor
