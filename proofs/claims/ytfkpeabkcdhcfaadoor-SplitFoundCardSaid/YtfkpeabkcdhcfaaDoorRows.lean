/-
  NARROWER THAN 'FOR EVERY INPUT', by the rows' own cells (each row's printed sentence says how): PermAll: laid · PermDraws: laid · PermSizes: laid · PermPlaces: laid · RelateSplit: laid · PermOnce: laid · RelateAlone: laid · PermAlone: laid · SplitParts: laid · SplitSums: laid · SplitFound: laid · SplitHalves: laid · SplitMoved: laid · SplitEnds: laid · RelateTargets: laid · RelateRefs: laid · RelateOnce: laid · RelatePages: laid.
  DERIVED. THE GIVEN ROWS OF THIS SEAT. 18 by the template 'for every input the law returns true; each argument reads behind the call as it read before'; 0 by the template 'total and deterministic' (their statements: YtfkpeabkcdhcfaaDoorTotals.lean).
  GIVEN WITH THE SEED: the statements are not yours to turn. If you find one false, say at which input.
  Laid BY PROGRAM, IN A SANDBOX (cutbox-rows.mjs): the forced cells as the released guide's own fill.sh prints them over the translation 03c2905d9c76345c… (all of the seat's roots in one cut). By AI agents, Wed Nov 11 2026. No macro, syntax, notation, axiom, sorry.
-/
import Derived.Test.YtfkpeabkcdhcfaaDoorChecked
import GoSem.Claim
import GoSem.ClaimJoined
import GoSem.ClaimMapViews
import Derived.JoinedTies
import Derived.KernelRfl
namespace Go.Proofs.YtfkpeabkcdhcfaaDoor
/- THE CELL 'sum', in the pinned program and in every row, IS THE sha256 OF THE DUMP (.gsa) THAT YtfkpeabkcdhcfaaDoorProg.lean LOADS. Nothing in Lean hashes anything: it is a label: what it is worth is what the hold of that sum in a sandbox is worth. -/
noncomputable def Tryd.pinned : Pinned := { name := "ytfkpeabkcdhcfaadoor", sum := "03c2905d9c76345cb9b7ca3bc3bba3a2c22016c9946c367f291adb16d9d44c5d", checked := Tryd.checked }
namespace Rows
def none {H : Type} : Left H := { results := [], args := [] }

/- WHAT THE LISTED PACKAGE-LEVEL VARIABLES READ AS WHEN THE CALL BEGINS. Each datum BY PROGRAM (the guide's laid-datum.mjs) off the statement by which the dump's own 'gosem.cut.vars' lays the variable. In a bare row this is a premise. The card (YtfkpeabkcdhcfaaDoorCards.lean) ties it to the program's text. -/
def laid_diorama_dioramaref02_constants {H : Type} : DataW H := .agg [.lit (.int .u32 1116352408), .lit (.int .u32 1899447441), .lit (.int .u32 3049323471), .lit (.int .u32 3921009573), .lit (.int .u32 961987163), .lit (.int .u32 1508970993), .lit (.int .u32 2453635748), .lit (.int .u32 2870763221), .lit (.int .u32 3624381080), .lit (.int .u32 310598401), .lit (.int .u32 607225278), .lit (.int .u32 1426881987), .lit (.int .u32 1925078388), .lit (.int .u32 2162078206), .lit (.int .u32 2614888103), .lit (.int .u32 3248222580), .lit (.int .u32 3835390401), .lit (.int .u32 4022224774), .lit (.int .u32 264347078), .lit (.int .u32 604807628), .lit (.int .u32 770255983), .lit (.int .u32 1249150122), .lit (.int .u32 1555081692), .lit (.int .u32 1996064986), .lit (.int .u32 2554220882), .lit (.int .u32 2821834349), .lit (.int .u32 2952996808), .lit (.int .u32 3210313671), .lit (.int .u32 3336571891), .lit (.int .u32 3584528711), .lit (.int .u32 113926993), .lit (.int .u32 338241895), .lit (.int .u32 666307205), .lit (.int .u32 773529912), .lit (.int .u32 1294757372), .lit (.int .u32 1396182291), .lit (.int .u32 1695183700), .lit (.int .u32 1986661051), .lit (.int .u32 2177026350), .lit (.int .u32 2456956037), .lit (.int .u32 2730485921), .lit (.int .u32 2820302411), .lit (.int .u32 3259730800), .lit (.int .u32 3345764771), .lit (.int .u32 3516065817), .lit (.int .u32 3600352804), .lit (.int .u32 4094571909), .lit (.int .u32 275423344), .lit (.int .u32 430227734), .lit (.int .u32 506948616), .lit (.int .u32 659060556), .lit (.int .u32 883997877), .lit (.int .u32 958139571), .lit (.int .u32 1322822218), .lit (.int .u32 1537002063), .lit (.int .u32 1747873779), .lit (.int .u32 1955562222), .lit (.int .u32 2024104815), .lit (.int .u32 2227730452), .lit (.int .u32 2361852424), .lit (.int .u32 2428436474), .lit (.int .u32 2756734187), .lit (.int .u32 3204031479), .lit (.int .u32 3329325298)]
def laid_diorama_hash_constants {H : Type} : DataW H := .agg [.lit (.int .u32 1116352408), .lit (.int .u32 1899447441), .lit (.int .u32 3049323471), .lit (.int .u32 3921009573), .lit (.int .u32 961987163), .lit (.int .u32 1508970993), .lit (.int .u32 2453635748), .lit (.int .u32 2870763221), .lit (.int .u32 3624381080), .lit (.int .u32 310598401), .lit (.int .u32 607225278), .lit (.int .u32 1426881987), .lit (.int .u32 1925078388), .lit (.int .u32 2162078206), .lit (.int .u32 2614888103), .lit (.int .u32 3248222580), .lit (.int .u32 3835390401), .lit (.int .u32 4022224774), .lit (.int .u32 264347078), .lit (.int .u32 604807628), .lit (.int .u32 770255983), .lit (.int .u32 1249150122), .lit (.int .u32 1555081692), .lit (.int .u32 1996064986), .lit (.int .u32 2554220882), .lit (.int .u32 2821834349), .lit (.int .u32 2952996808), .lit (.int .u32 3210313671), .lit (.int .u32 3336571891), .lit (.int .u32 3584528711), .lit (.int .u32 113926993), .lit (.int .u32 338241895), .lit (.int .u32 666307205), .lit (.int .u32 773529912), .lit (.int .u32 1294757372), .lit (.int .u32 1396182291), .lit (.int .u32 1695183700), .lit (.int .u32 1986661051), .lit (.int .u32 2177026350), .lit (.int .u32 2456956037), .lit (.int .u32 2730485921), .lit (.int .u32 2820302411), .lit (.int .u32 3259730800), .lit (.int .u32 3345764771), .lit (.int .u32 3516065817), .lit (.int .u32 3600352804), .lit (.int .u32 4094571909), .lit (.int .u32 275423344), .lit (.int .u32 430227734), .lit (.int .u32 506948616), .lit (.int .u32 659060556), .lit (.int .u32 883997877), .lit (.int .u32 958139571), .lit (.int .u32 1322822218), .lit (.int .u32 1537002063), .lit (.int .u32 1747873779), .lit (.int .u32 1955562222), .lit (.int .u32 2024104815), .lit (.int .u32 2227730452), .lit (.int .u32 2361852424), .lit (.int .u32 2428436474), .lit (.int .u32 2756734187), .lit (.int .u32 3204031479), .lit (.int .u32 3329325298)]

/-- 'dioramalaw06.PermAll': WHATEVER THE INPUT: true; the input reads as it did. -/
def permAllSpec : ChangeSpec := { name := "permAll", fn := fun _ => fun
  | [d1, d2, d3] => { results := [.lit (.bool true)], args := [d1, d2, d3] }
  | _ => none }
def permAllRow : OpenClaim := { program := "ytfkpeabkcdhcfaadoor", sum := "03c2905d9c76345cb9b7ca3bc3bba3a2c22016c9946c367f291adb16d9d44c5d", func := "diorama/dioramalaw06.PermAll", spec := "permAll", unfollowed := true, recurses := true, named := ["diorama/hash.constants", "diorama/dioramaref02.constants"], apart := false, laid := [("diorama/dioramaref02.constants", laid_diorama_dioramaref02_constants), ("diorama/hash.constants", laid_diorama_hash_constants)] }
def PermAllSaid : Prop := permAllRow.holds Tryd.pinned (OpenSpec.ofChange permAllSpec)

/-- ITS FALSE NEIGHBOUR: 'it returns false'. Refute it at one input. -/
def permAllWrong : ChangeSpec := { name := "permAll", fn := fun _ => fun
  | [d1, d2, d3] => { results := [.lit (.bool false)], args := [d1, d2, d3] }
  | _ => none }
def PermAllWrongFalsely : Prop := permAllRow.holds Tryd.pinned (OpenSpec.ofChange permAllWrong)

/-- 'dioramalaw06.PermDraws': WHATEVER THE INPUT: true; the input reads as it did. -/
def permDrawsSpec : ChangeSpec := { name := "permDraws", fn := fun _ => fun
  | [d1, d2] => { results := [.lit (.bool true)], args := [d1, d2] }
  | _ => none }
def permDrawsRow : OpenClaim := { program := "ytfkpeabkcdhcfaadoor", sum := "03c2905d9c76345cb9b7ca3bc3bba3a2c22016c9946c367f291adb16d9d44c5d", func := "diorama/dioramalaw06.PermDraws", spec := "permDraws", unfollowed := true, recurses := true, named := ["diorama/hash.constants"], apart := false, laid := [("diorama/hash.constants", laid_diorama_hash_constants)] }
def PermDrawsSaid : Prop := permDrawsRow.holds Tryd.pinned (OpenSpec.ofChange permDrawsSpec)

/-- ITS FALSE NEIGHBOUR: 'it returns false'. Refute it at one input. -/
def permDrawsWrong : ChangeSpec := { name := "permDraws", fn := fun _ => fun
  | [d1, d2] => { results := [.lit (.bool false)], args := [d1, d2] }
  | _ => none }
def PermDrawsWrongFalsely : Prop := permDrawsRow.holds Tryd.pinned (OpenSpec.ofChange permDrawsWrong)

/-- 'dioramalaw06.PermSizes': WHATEVER THE INPUT: true; the input reads as it did. -/
def permSizesSpec : ChangeSpec := { name := "permSizes", fn := fun _ => fun
  | [d1, d2, d3, d4] => { results := [.lit (.bool true)], args := [d1, d2, d3, d4] }
  | _ => none }
def permSizesRow : OpenClaim := { program := "ytfkpeabkcdhcfaadoor", sum := "03c2905d9c76345cb9b7ca3bc3bba3a2c22016c9946c367f291adb16d9d44c5d", func := "diorama/dioramalaw06.PermSizes", spec := "permSizes", unfollowed := true, recurses := true, named := ["diorama/hash.constants"], apart := false, laid := [("diorama/hash.constants", laid_diorama_hash_constants)] }
def PermSizesSaid : Prop := permSizesRow.holds Tryd.pinned (OpenSpec.ofChange permSizesSpec)

/-- ITS FALSE NEIGHBOUR: 'it returns false'. Refute it at one input. -/
def permSizesWrong : ChangeSpec := { name := "permSizes", fn := fun _ => fun
  | [d1, d2, d3, d4] => { results := [.lit (.bool false)], args := [d1, d2, d3, d4] }
  | _ => none }
def PermSizesWrongFalsely : Prop := permSizesRow.holds Tryd.pinned (OpenSpec.ofChange permSizesWrong)

/-- 'dioramalaw06.PermPlaces': WHATEVER THE INPUT: true; the input reads as it did. -/
def permPlacesSpec : ChangeSpec := { name := "permPlaces", fn := fun _ => fun
  | [d1, d2, d3, d4] => { results := [.lit (.bool true)], args := [d1, d2, d3, d4] }
  | _ => none }
def permPlacesRow : OpenClaim := { program := "ytfkpeabkcdhcfaadoor", sum := "03c2905d9c76345cb9b7ca3bc3bba3a2c22016c9946c367f291adb16d9d44c5d", func := "diorama/dioramalaw06.PermPlaces", spec := "permPlaces", unfollowed := true, recurses := true, named := ["diorama/hash.constants", "diorama/dioramaref02.constants"], apart := false, laid := [("diorama/dioramaref02.constants", laid_diorama_dioramaref02_constants), ("diorama/hash.constants", laid_diorama_hash_constants)] }
def PermPlacesSaid : Prop := permPlacesRow.holds Tryd.pinned (OpenSpec.ofChange permPlacesSpec)

/-- ITS FALSE NEIGHBOUR: 'it returns false'. Refute it at one input. -/
def permPlacesWrong : ChangeSpec := { name := "permPlaces", fn := fun _ => fun
  | [d1, d2, d3, d4] => { results := [.lit (.bool false)], args := [d1, d2, d3, d4] }
  | _ => none }
def PermPlacesWrongFalsely : Prop := permPlacesRow.holds Tryd.pinned (OpenSpec.ofChange permPlacesWrong)

/-- 'dioramalaw16.RelateSplit': WHATEVER THE INPUT: true; the input reads as it did. -/
def relateSplitSpec : ChangeSpec := { name := "relateSplit", fn := fun _ => fun
  | [d] => { results := [.lit (.bool true)], args := [d] }
  | _ => none }
def relateSplitRow : OpenClaim := { program := "ytfkpeabkcdhcfaadoor", sum := "03c2905d9c76345cb9b7ca3bc3bba3a2c22016c9946c367f291adb16d9d44c5d", func := "diorama/dioramalaw16.RelateSplit", spec := "relateSplit", unfollowed := true, recurses := true, named := ["diorama/hash.constants"], apart := false, laid := [("diorama/hash.constants", laid_diorama_hash_constants)] }
def RelateSplitSaid : Prop := relateSplitRow.holds Tryd.pinned (OpenSpec.ofChange relateSplitSpec)

/-- ITS FALSE NEIGHBOUR: 'it returns false'. Refute it at one input. -/
def relateSplitWrong : ChangeSpec := { name := "relateSplit", fn := fun _ => fun
  | [d] => { results := [.lit (.bool false)], args := [d] }
  | _ => none }
def RelateSplitWrongFalsely : Prop := relateSplitRow.holds Tryd.pinned (OpenSpec.ofChange relateSplitWrong)

/-- 'dioramalaw06.PermOnce': WHATEVER THE INPUT: true; the input reads as it did. -/
def permOnceSpec : ChangeSpec := { name := "permOnce", fn := fun _ => fun
  | [d1, d2, d3] => { results := [.lit (.bool true)], args := [d1, d2, d3] }
  | _ => none }
def permOnceRow : OpenClaim := { program := "ytfkpeabkcdhcfaadoor", sum := "03c2905d9c76345cb9b7ca3bc3bba3a2c22016c9946c367f291adb16d9d44c5d", func := "diorama/dioramalaw06.PermOnce", spec := "permOnce", unfollowed := true, recurses := true, named := ["diorama/hash.constants"], apart := false, laid := [("diorama/hash.constants", laid_diorama_hash_constants)] }
def PermOnceSaid : Prop := permOnceRow.holds Tryd.pinned (OpenSpec.ofChange permOnceSpec)

/-- ITS FALSE NEIGHBOUR: 'it returns false'. Refute it at one input. -/
def permOnceWrong : ChangeSpec := { name := "permOnce", fn := fun _ => fun
  | [d1, d2, d3] => { results := [.lit (.bool false)], args := [d1, d2, d3] }
  | _ => none }
def PermOnceWrongFalsely : Prop := permOnceRow.holds Tryd.pinned (OpenSpec.ofChange permOnceWrong)

/-- 'dioramalaw16.RelateAlone': WHATEVER THE INPUT: true; the input reads as it did. -/
def relateAloneSpec : ChangeSpec := { name := "relateAlone", fn := fun _ => fun
  | [d1, d2, d3] => { results := [.lit (.bool true)], args := [d1, d2, d3] }
  | _ => none }
def relateAloneRow : OpenClaim := { program := "ytfkpeabkcdhcfaadoor", sum := "03c2905d9c76345cb9b7ca3bc3bba3a2c22016c9946c367f291adb16d9d44c5d", func := "diorama/dioramalaw16.RelateAlone", spec := "relateAlone", unfollowed := true, recurses := true, named := ["diorama/hash.constants"], apart := false, laid := [("diorama/hash.constants", laid_diorama_hash_constants)] }
def RelateAloneSaid : Prop := relateAloneRow.holds Tryd.pinned (OpenSpec.ofChange relateAloneSpec)

/-- ITS FALSE NEIGHBOUR: 'it returns false'. Refute it at one input. -/
def relateAloneWrong : ChangeSpec := { name := "relateAlone", fn := fun _ => fun
  | [d1, d2, d3] => { results := [.lit (.bool false)], args := [d1, d2, d3] }
  | _ => none }
def RelateAloneWrongFalsely : Prop := relateAloneRow.holds Tryd.pinned (OpenSpec.ofChange relateAloneWrong)

/-- 'dioramalaw06.PermAlone': WHATEVER THE INPUT: true; the input reads as it did. -/
def permAloneSpec : ChangeSpec := { name := "permAlone", fn := fun _ => fun
  | [d1, d2, d3, d4, d5] => { results := [.lit (.bool true)], args := [d1, d2, d3, d4, d5] }
  | _ => none }
def permAloneRow : OpenClaim := { program := "ytfkpeabkcdhcfaadoor", sum := "03c2905d9c76345cb9b7ca3bc3bba3a2c22016c9946c367f291adb16d9d44c5d", func := "diorama/dioramalaw06.PermAlone", spec := "permAlone", unfollowed := true, recurses := true, named := ["diorama/hash.constants"], apart := false, laid := [("diorama/hash.constants", laid_diorama_hash_constants)] }
def PermAloneSaid : Prop := permAloneRow.holds Tryd.pinned (OpenSpec.ofChange permAloneSpec)

/-- ITS FALSE NEIGHBOUR: 'it returns false'. Refute it at one input. -/
def permAloneWrong : ChangeSpec := { name := "permAlone", fn := fun _ => fun
  | [d1, d2, d3, d4, d5] => { results := [.lit (.bool false)], args := [d1, d2, d3, d4, d5] }
  | _ => none }
def PermAloneWrongFalsely : Prop := permAloneRow.holds Tryd.pinned (OpenSpec.ofChange permAloneWrong)

/-- 'dioramalaw07.SplitParts': WHATEVER THE INPUT: true; the input reads as it did. -/
def splitPartsSpec : ChangeSpec := { name := "splitParts", fn := fun _ => fun
  | [d1, d2, d3, d4] => { results := [.lit (.bool true)], args := [d1, d2, d3, d4] }
  | _ => none }
def splitPartsRow : OpenClaim := { program := "ytfkpeabkcdhcfaadoor", sum := "03c2905d9c76345cb9b7ca3bc3bba3a2c22016c9946c367f291adb16d9d44c5d", func := "diorama/dioramalaw07.SplitParts", spec := "splitParts", unfollowed := true, recurses := true, named := ["diorama/hash.constants", "diorama/dioramaref02.constants"], apart := false, laid := [("diorama/dioramaref02.constants", laid_diorama_dioramaref02_constants), ("diorama/hash.constants", laid_diorama_hash_constants)] }
def SplitPartsSaid : Prop := splitPartsRow.holds Tryd.pinned (OpenSpec.ofChange splitPartsSpec)

/-- ITS FALSE NEIGHBOUR: 'it returns false'. Refute it at one input. -/
def splitPartsWrong : ChangeSpec := { name := "splitParts", fn := fun _ => fun
  | [d1, d2, d3, d4] => { results := [.lit (.bool false)], args := [d1, d2, d3, d4] }
  | _ => none }
def SplitPartsWrongFalsely : Prop := splitPartsRow.holds Tryd.pinned (OpenSpec.ofChange splitPartsWrong)

/-- 'dioramalaw07.SplitSums': WHATEVER THE INPUT: true; the input reads as it did. -/
def splitSumsSpec : ChangeSpec := { name := "splitSums", fn := fun _ => fun
  | [d1, d2] => { results := [.lit (.bool true)], args := [d1, d2] }
  | _ => none }
def splitSumsRow : OpenClaim := { program := "ytfkpeabkcdhcfaadoor", sum := "03c2905d9c76345cb9b7ca3bc3bba3a2c22016c9946c367f291adb16d9d44c5d", func := "diorama/dioramalaw07.SplitSums", spec := "splitSums", unfollowed := true, recurses := true, named := ["diorama/hash.constants"], apart := false, laid := [("diorama/hash.constants", laid_diorama_hash_constants)] }
def SplitSumsSaid : Prop := splitSumsRow.holds Tryd.pinned (OpenSpec.ofChange splitSumsSpec)

/-- ITS FALSE NEIGHBOUR: 'it returns false'. Refute it at one input. -/
def splitSumsWrong : ChangeSpec := { name := "splitSums", fn := fun _ => fun
  | [d1, d2] => { results := [.lit (.bool false)], args := [d1, d2] }
  | _ => none }
def SplitSumsWrongFalsely : Prop := splitSumsRow.holds Tryd.pinned (OpenSpec.ofChange splitSumsWrong)

/-- 'dioramalaw07.SplitFound': WHATEVER THE INPUT: true; the input reads as it did. -/
def splitFoundSpec : ChangeSpec := { name := "splitFound", fn := fun _ => fun
  | [d1, d2] => { results := [.lit (.bool true)], args := [d1, d2] }
  | _ => none }
def splitFoundRow : OpenClaim := { program := "ytfkpeabkcdhcfaadoor", sum := "03c2905d9c76345cb9b7ca3bc3bba3a2c22016c9946c367f291adb16d9d44c5d", func := "diorama/dioramalaw07.SplitFound", spec := "splitFound", unfollowed := true, recurses := true, named := ["diorama/hash.constants"], apart := false, laid := [("diorama/hash.constants", laid_diorama_hash_constants)] }
def SplitFoundSaid : Prop := splitFoundRow.holds Tryd.pinned (OpenSpec.ofChange splitFoundSpec)

/-- ITS FALSE NEIGHBOUR: 'it returns false'. Refute it at one input. -/
def splitFoundWrong : ChangeSpec := { name := "splitFound", fn := fun _ => fun
  | [d1, d2] => { results := [.lit (.bool false)], args := [d1, d2] }
  | _ => none }
def SplitFoundWrongFalsely : Prop := splitFoundRow.holds Tryd.pinned (OpenSpec.ofChange splitFoundWrong)

/-- 'dioramalaw07.SplitHalves': WHATEVER THE INPUT: true; the input reads as it did. -/
def splitHalvesSpec : ChangeSpec := { name := "splitHalves", fn := fun _ => fun
  | [d] => { results := [.lit (.bool true)], args := [d] }
  | _ => none }
def splitHalvesRow : OpenClaim := { program := "ytfkpeabkcdhcfaadoor", sum := "03c2905d9c76345cb9b7ca3bc3bba3a2c22016c9946c367f291adb16d9d44c5d", func := "diorama/dioramalaw07.SplitHalves", spec := "splitHalves", unfollowed := true, recurses := true, named := ["diorama/hash.constants"], apart := false, laid := [("diorama/hash.constants", laid_diorama_hash_constants)] }
def SplitHalvesSaid : Prop := splitHalvesRow.holds Tryd.pinned (OpenSpec.ofChange splitHalvesSpec)

/-- ITS FALSE NEIGHBOUR: 'it returns false'. Refute it at one input. -/
def splitHalvesWrong : ChangeSpec := { name := "splitHalves", fn := fun _ => fun
  | [d] => { results := [.lit (.bool false)], args := [d] }
  | _ => none }
def SplitHalvesWrongFalsely : Prop := splitHalvesRow.holds Tryd.pinned (OpenSpec.ofChange splitHalvesWrong)

/-- 'dioramalaw07.SplitMoved': WHATEVER THE INPUT: true; the input reads as it did. -/
def splitMovedSpec : ChangeSpec := { name := "splitMoved", fn := fun _ => fun
  | [d1, d2] => { results := [.lit (.bool true)], args := [d1, d2] }
  | _ => none }
def splitMovedRow : OpenClaim := { program := "ytfkpeabkcdhcfaadoor", sum := "03c2905d9c76345cb9b7ca3bc3bba3a2c22016c9946c367f291adb16d9d44c5d", func := "diorama/dioramalaw07.SplitMoved", spec := "splitMoved", unfollowed := true, recurses := true, named := ["diorama/hash.constants"], apart := false, laid := [("diorama/hash.constants", laid_diorama_hash_constants)] }
def SplitMovedSaid : Prop := splitMovedRow.holds Tryd.pinned (OpenSpec.ofChange splitMovedSpec)

/-- ITS FALSE NEIGHBOUR: 'it returns false'. Refute it at one input. -/
def splitMovedWrong : ChangeSpec := { name := "splitMoved", fn := fun _ => fun
  | [d1, d2] => { results := [.lit (.bool false)], args := [d1, d2] }
  | _ => none }
def SplitMovedWrongFalsely : Prop := splitMovedRow.holds Tryd.pinned (OpenSpec.ofChange splitMovedWrong)

/-- 'dioramalaw07.SplitEnds': WHATEVER THE INPUT: true; the input reads as it did. -/
def splitEndsSpec : ChangeSpec := { name := "splitEnds", fn := fun _ => fun
  | [d] => { results := [.lit (.bool true)], args := [d] }
  | _ => none }
def splitEndsRow : OpenClaim := { program := "ytfkpeabkcdhcfaadoor", sum := "03c2905d9c76345cb9b7ca3bc3bba3a2c22016c9946c367f291adb16d9d44c5d", func := "diorama/dioramalaw07.SplitEnds", spec := "splitEnds", unfollowed := true, recurses := true, named := ["diorama/hash.constants"], apart := false, laid := [("diorama/hash.constants", laid_diorama_hash_constants)] }
def SplitEndsSaid : Prop := splitEndsRow.holds Tryd.pinned (OpenSpec.ofChange splitEndsSpec)

/-- ITS FALSE NEIGHBOUR: 'it returns false'. Refute it at one input. -/
def splitEndsWrong : ChangeSpec := { name := "splitEnds", fn := fun _ => fun
  | [d] => { results := [.lit (.bool false)], args := [d] }
  | _ => none }
def SplitEndsWrongFalsely : Prop := splitEndsRow.holds Tryd.pinned (OpenSpec.ofChange splitEndsWrong)

/-- 'dioramalaw16.RelateTargets': WHATEVER THE INPUT: true; the input reads as it did. -/
def relateTargetsSpec : ChangeSpec := { name := "relateTargets", fn := fun _ => fun
  | [d1, d2, d3, d4] => { results := [.lit (.bool true)], args := [d1, d2, d3, d4] }
  | _ => none }
def relateTargetsRow : OpenClaim := { program := "ytfkpeabkcdhcfaadoor", sum := "03c2905d9c76345cb9b7ca3bc3bba3a2c22016c9946c367f291adb16d9d44c5d", func := "diorama/dioramalaw16.RelateTargets", spec := "relateTargets", unfollowed := true, recurses := true, named := ["diorama/hash.constants", "diorama/dioramaref02.constants"], apart := false, laid := [("diorama/dioramaref02.constants", laid_diorama_dioramaref02_constants), ("diorama/hash.constants", laid_diorama_hash_constants)] }
def RelateTargetsSaid : Prop := relateTargetsRow.holds Tryd.pinned (OpenSpec.ofChange relateTargetsSpec)

/-- ITS FALSE NEIGHBOUR: 'it returns false'. Refute it at one input. -/
def relateTargetsWrong : ChangeSpec := { name := "relateTargets", fn := fun _ => fun
  | [d1, d2, d3, d4] => { results := [.lit (.bool false)], args := [d1, d2, d3, d4] }
  | _ => none }
def RelateTargetsWrongFalsely : Prop := relateTargetsRow.holds Tryd.pinned (OpenSpec.ofChange relateTargetsWrong)

/-- 'dioramalaw16.RelateRefs': WHATEVER THE INPUT: true; the input reads as it did. -/
def relateRefsSpec : ChangeSpec := { name := "relateRefs", fn := fun _ => fun
  | [d1, d2, d3, d4, d5, d6] => { results := [.lit (.bool true)], args := [d1, d2, d3, d4, d5, d6] }
  | _ => none }
def relateRefsRow : OpenClaim := { program := "ytfkpeabkcdhcfaadoor", sum := "03c2905d9c76345cb9b7ca3bc3bba3a2c22016c9946c367f291adb16d9d44c5d", func := "diorama/dioramalaw16.RelateRefs", spec := "relateRefs", unfollowed := true, recurses := true, named := ["diorama/hash.constants", "diorama/dioramaref02.constants"], apart := false, laid := [("diorama/dioramaref02.constants", laid_diorama_dioramaref02_constants), ("diorama/hash.constants", laid_diorama_hash_constants)] }
def RelateRefsSaid : Prop := relateRefsRow.holds Tryd.pinned (OpenSpec.ofChange relateRefsSpec)

/-- ITS FALSE NEIGHBOUR: 'it returns false'. Refute it at one input. -/
def relateRefsWrong : ChangeSpec := { name := "relateRefs", fn := fun _ => fun
  | [d1, d2, d3, d4, d5, d6] => { results := [.lit (.bool false)], args := [d1, d2, d3, d4, d5, d6] }
  | _ => none }
def RelateRefsWrongFalsely : Prop := relateRefsRow.holds Tryd.pinned (OpenSpec.ofChange relateRefsWrong)

/-- 'dioramalaw16.RelateOnce': WHATEVER THE INPUT: true; the input reads as it did. -/
def relateOnceSpec : ChangeSpec := { name := "relateOnce", fn := fun _ => fun
  | [d] => { results := [.lit (.bool true)], args := [d] }
  | _ => none }
def relateOnceRow : OpenClaim := { program := "ytfkpeabkcdhcfaadoor", sum := "03c2905d9c76345cb9b7ca3bc3bba3a2c22016c9946c367f291adb16d9d44c5d", func := "diorama/dioramalaw16.RelateOnce", spec := "relateOnce", unfollowed := true, recurses := true, named := ["diorama/hash.constants"], apart := false, laid := [("diorama/hash.constants", laid_diorama_hash_constants)] }
def RelateOnceSaid : Prop := relateOnceRow.holds Tryd.pinned (OpenSpec.ofChange relateOnceSpec)

/-- ITS FALSE NEIGHBOUR: 'it returns false'. Refute it at one input. -/
def relateOnceWrong : ChangeSpec := { name := "relateOnce", fn := fun _ => fun
  | [d] => { results := [.lit (.bool false)], args := [d] }
  | _ => none }
def RelateOnceWrongFalsely : Prop := relateOnceRow.holds Tryd.pinned (OpenSpec.ofChange relateOnceWrong)

/-- 'dioramalaw16.RelatePages': WHATEVER THE INPUT: true; the input reads as it did. -/
def relatePagesSpec : ChangeSpec := { name := "relatePages", fn := fun _ => fun
  | [d1, d2, d3, d4, d5] => { results := [.lit (.bool true)], args := [d1, d2, d3, d4, d5] }
  | _ => none }
def relatePagesRow : OpenClaim := { program := "ytfkpeabkcdhcfaadoor", sum := "03c2905d9c76345cb9b7ca3bc3bba3a2c22016c9946c367f291adb16d9d44c5d", func := "diorama/dioramalaw16.RelatePages", spec := "relatePages", unfollowed := true, recurses := true, named := ["diorama/hash.constants"], apart := false, laid := [("diorama/hash.constants", laid_diorama_hash_constants)] }
def RelatePagesSaid : Prop := relatePagesRow.holds Tryd.pinned (OpenSpec.ofChange relatePagesSpec)

/-- ITS FALSE NEIGHBOUR: 'it returns false'. Refute it at one input. -/
def relatePagesWrong : ChangeSpec := { name := "relatePages", fn := fun _ => fun
  | [d1, d2, d3, d4, d5] => { results := [.lit (.bool false)], args := [d1, d2, d3, d4, d5] }
  | _ => none }
def RelatePagesWrongFalsely : Prop := relatePagesRow.holds Tryd.pinned (OpenSpec.ofChange relatePagesWrong)

/- THE SECOND FORM. 'bulk': how many values and letters a reading holds, each counted each time it is reached (what is shared counts as often as it is met; a slice's spare places count too). A statement '..UptoSaid' is the law's where the arguments, and the package variables that the reading takes, are together of bulk at most 1048576: NARROWER than '..Said'. Prove '..Said' where nothing that the law and all that it calls make is longer than what came in: it says more and counts as full. Else prove '..UptoSaid'. A law counts once. -/
mutual
def uptoBulk {H : Type} : DataW H → Nat
  | .lit (.string bytes) => bytes.length + 1
  | .lit _ => 1
  | .nil => 1
  | .ptr d => uptoBulk d + 1
  | .slice elems spare => uptoBulkAll elems + uptoBulkAll spare + 1
  | .agg parts => uptoBulkAll parts + 1
  | .iface _ d => uptoBulk d + 1
  | .map entries => uptoBulkEntries entries + 1
  | .held _ => 1
def uptoBulkAll {H : Type} : List (DataW H) → Nat
  | [] => 0
  | d :: r => uptoBulk d + uptoBulkAll r
def uptoBulkEntries {H : Type} : List (Lit × DataW H) → Nat
  | [] => 0
  | x :: r => uptoBulkEntry x + uptoBulkEntries r
def uptoBulkEntry {H : Type} : Lit × DataW H → Nat
  | (.string bytes, d) => bytes.length + uptoBulk d + 1
  | (_, d) => uptoBulk d + 1
 end
def uptoSmall : (H : Type) → List (DataW H) → Bool := fun _ ds => decide (uptoBulkAll ds ≤ 1048576)
def OpenSpec.upto (s : _root_.Go.ChangeSpec) : _root_.Go.OpenSpec := { _root_.Go.OpenSpec.ofChange s with cond := some uptoSmall }

/-- 'dioramalaw06.PermAll', WHERE WHAT IT READS IS OF BULK AT MOST 1048576: true; the input reads as it did. -/
def permAllUptoRow : OpenClaim := { program := "ytfkpeabkcdhcfaadoor", sum := "03c2905d9c76345cb9b7ca3bc3bba3a2c22016c9946c367f291adb16d9d44c5d", func := "diorama/dioramalaw06.PermAll", spec := "permAll", unfollowed := true, recurses := true, named := ["diorama/hash.constants", "diorama/dioramaref02.constants"], apart := false, laid := [("diorama/dioramaref02.constants", laid_diorama_dioramaref02_constants), ("diorama/hash.constants", laid_diorama_hash_constants)], narrowed := true }
def PermAllUptoSaid : Prop := permAllUptoRow.holds Tryd.pinned (OpenSpec.upto permAllSpec)

/-- 'dioramalaw06.PermDraws', WHERE WHAT IT READS IS OF BULK AT MOST 1048576: true; the input reads as it did. -/
def permDrawsUptoRow : OpenClaim := { program := "ytfkpeabkcdhcfaadoor", sum := "03c2905d9c76345cb9b7ca3bc3bba3a2c22016c9946c367f291adb16d9d44c5d", func := "diorama/dioramalaw06.PermDraws", spec := "permDraws", unfollowed := true, recurses := true, named := ["diorama/hash.constants"], apart := false, laid := [("diorama/hash.constants", laid_diorama_hash_constants)], narrowed := true }
def PermDrawsUptoSaid : Prop := permDrawsUptoRow.holds Tryd.pinned (OpenSpec.upto permDrawsSpec)

/-- 'dioramalaw06.PermSizes', WHERE WHAT IT READS IS OF BULK AT MOST 1048576: true; the input reads as it did. -/
def permSizesUptoRow : OpenClaim := { program := "ytfkpeabkcdhcfaadoor", sum := "03c2905d9c76345cb9b7ca3bc3bba3a2c22016c9946c367f291adb16d9d44c5d", func := "diorama/dioramalaw06.PermSizes", spec := "permSizes", unfollowed := true, recurses := true, named := ["diorama/hash.constants"], apart := false, laid := [("diorama/hash.constants", laid_diorama_hash_constants)], narrowed := true }
def PermSizesUptoSaid : Prop := permSizesUptoRow.holds Tryd.pinned (OpenSpec.upto permSizesSpec)

/-- 'dioramalaw06.PermPlaces', WHERE WHAT IT READS IS OF BULK AT MOST 1048576: true; the input reads as it did. -/
def permPlacesUptoRow : OpenClaim := { program := "ytfkpeabkcdhcfaadoor", sum := "03c2905d9c76345cb9b7ca3bc3bba3a2c22016c9946c367f291adb16d9d44c5d", func := "diorama/dioramalaw06.PermPlaces", spec := "permPlaces", unfollowed := true, recurses := true, named := ["diorama/hash.constants", "diorama/dioramaref02.constants"], apart := false, laid := [("diorama/dioramaref02.constants", laid_diorama_dioramaref02_constants), ("diorama/hash.constants", laid_diorama_hash_constants)], narrowed := true }
def PermPlacesUptoSaid : Prop := permPlacesUptoRow.holds Tryd.pinned (OpenSpec.upto permPlacesSpec)

/-- 'dioramalaw16.RelateSplit', WHERE WHAT IT READS IS OF BULK AT MOST 1048576: true; the input reads as it did. -/
def relateSplitUptoRow : OpenClaim := { program := "ytfkpeabkcdhcfaadoor", sum := "03c2905d9c76345cb9b7ca3bc3bba3a2c22016c9946c367f291adb16d9d44c5d", func := "diorama/dioramalaw16.RelateSplit", spec := "relateSplit", unfollowed := true, recurses := true, named := ["diorama/hash.constants"], apart := false, laid := [("diorama/hash.constants", laid_diorama_hash_constants)], narrowed := true }
def RelateSplitUptoSaid : Prop := relateSplitUptoRow.holds Tryd.pinned (OpenSpec.upto relateSplitSpec)

/-- 'dioramalaw06.PermOnce', WHERE WHAT IT READS IS OF BULK AT MOST 1048576: true; the input reads as it did. -/
def permOnceUptoRow : OpenClaim := { program := "ytfkpeabkcdhcfaadoor", sum := "03c2905d9c76345cb9b7ca3bc3bba3a2c22016c9946c367f291adb16d9d44c5d", func := "diorama/dioramalaw06.PermOnce", spec := "permOnce", unfollowed := true, recurses := true, named := ["diorama/hash.constants"], apart := false, laid := [("diorama/hash.constants", laid_diorama_hash_constants)], narrowed := true }
def PermOnceUptoSaid : Prop := permOnceUptoRow.holds Tryd.pinned (OpenSpec.upto permOnceSpec)

/-- 'dioramalaw16.RelateAlone', WHERE WHAT IT READS IS OF BULK AT MOST 1048576: true; the input reads as it did. -/
def relateAloneUptoRow : OpenClaim := { program := "ytfkpeabkcdhcfaadoor", sum := "03c2905d9c76345cb9b7ca3bc3bba3a2c22016c9946c367f291adb16d9d44c5d", func := "diorama/dioramalaw16.RelateAlone", spec := "relateAlone", unfollowed := true, recurses := true, named := ["diorama/hash.constants"], apart := false, laid := [("diorama/hash.constants", laid_diorama_hash_constants)], narrowed := true }
def RelateAloneUptoSaid : Prop := relateAloneUptoRow.holds Tryd.pinned (OpenSpec.upto relateAloneSpec)

/-- 'dioramalaw06.PermAlone', WHERE WHAT IT READS IS OF BULK AT MOST 1048576: true; the input reads as it did. -/
def permAloneUptoRow : OpenClaim := { program := "ytfkpeabkcdhcfaadoor", sum := "03c2905d9c76345cb9b7ca3bc3bba3a2c22016c9946c367f291adb16d9d44c5d", func := "diorama/dioramalaw06.PermAlone", spec := "permAlone", unfollowed := true, recurses := true, named := ["diorama/hash.constants"], apart := false, laid := [("diorama/hash.constants", laid_diorama_hash_constants)], narrowed := true }
def PermAloneUptoSaid : Prop := permAloneUptoRow.holds Tryd.pinned (OpenSpec.upto permAloneSpec)

/-- 'dioramalaw07.SplitParts', WHERE WHAT IT READS IS OF BULK AT MOST 1048576: true; the input reads as it did. -/
def splitPartsUptoRow : OpenClaim := { program := "ytfkpeabkcdhcfaadoor", sum := "03c2905d9c76345cb9b7ca3bc3bba3a2c22016c9946c367f291adb16d9d44c5d", func := "diorama/dioramalaw07.SplitParts", spec := "splitParts", unfollowed := true, recurses := true, named := ["diorama/hash.constants", "diorama/dioramaref02.constants"], apart := false, laid := [("diorama/dioramaref02.constants", laid_diorama_dioramaref02_constants), ("diorama/hash.constants", laid_diorama_hash_constants)], narrowed := true }
def SplitPartsUptoSaid : Prop := splitPartsUptoRow.holds Tryd.pinned (OpenSpec.upto splitPartsSpec)

/-- 'dioramalaw07.SplitSums', WHERE WHAT IT READS IS OF BULK AT MOST 1048576: true; the input reads as it did. -/
def splitSumsUptoRow : OpenClaim := { program := "ytfkpeabkcdhcfaadoor", sum := "03c2905d9c76345cb9b7ca3bc3bba3a2c22016c9946c367f291adb16d9d44c5d", func := "diorama/dioramalaw07.SplitSums", spec := "splitSums", unfollowed := true, recurses := true, named := ["diorama/hash.constants"], apart := false, laid := [("diorama/hash.constants", laid_diorama_hash_constants)], narrowed := true }
def SplitSumsUptoSaid : Prop := splitSumsUptoRow.holds Tryd.pinned (OpenSpec.upto splitSumsSpec)

/-- 'dioramalaw07.SplitFound', WHERE WHAT IT READS IS OF BULK AT MOST 1048576: true; the input reads as it did. -/
def splitFoundUptoRow : OpenClaim := { program := "ytfkpeabkcdhcfaadoor", sum := "03c2905d9c76345cb9b7ca3bc3bba3a2c22016c9946c367f291adb16d9d44c5d", func := "diorama/dioramalaw07.SplitFound", spec := "splitFound", unfollowed := true, recurses := true, named := ["diorama/hash.constants"], apart := false, laid := [("diorama/hash.constants", laid_diorama_hash_constants)], narrowed := true }
def SplitFoundUptoSaid : Prop := splitFoundUptoRow.holds Tryd.pinned (OpenSpec.upto splitFoundSpec)

/-- 'dioramalaw07.SplitHalves', WHERE WHAT IT READS IS OF BULK AT MOST 1048576: true; the input reads as it did. -/
def splitHalvesUptoRow : OpenClaim := { program := "ytfkpeabkcdhcfaadoor", sum := "03c2905d9c76345cb9b7ca3bc3bba3a2c22016c9946c367f291adb16d9d44c5d", func := "diorama/dioramalaw07.SplitHalves", spec := "splitHalves", unfollowed := true, recurses := true, named := ["diorama/hash.constants"], apart := false, laid := [("diorama/hash.constants", laid_diorama_hash_constants)], narrowed := true }
def SplitHalvesUptoSaid : Prop := splitHalvesUptoRow.holds Tryd.pinned (OpenSpec.upto splitHalvesSpec)

/-- 'dioramalaw07.SplitMoved', WHERE WHAT IT READS IS OF BULK AT MOST 1048576: true; the input reads as it did. -/
def splitMovedUptoRow : OpenClaim := { program := "ytfkpeabkcdhcfaadoor", sum := "03c2905d9c76345cb9b7ca3bc3bba3a2c22016c9946c367f291adb16d9d44c5d", func := "diorama/dioramalaw07.SplitMoved", spec := "splitMoved", unfollowed := true, recurses := true, named := ["diorama/hash.constants"], apart := false, laid := [("diorama/hash.constants", laid_diorama_hash_constants)], narrowed := true }
def SplitMovedUptoSaid : Prop := splitMovedUptoRow.holds Tryd.pinned (OpenSpec.upto splitMovedSpec)

/-- 'dioramalaw07.SplitEnds', WHERE WHAT IT READS IS OF BULK AT MOST 1048576: true; the input reads as it did. -/
def splitEndsUptoRow : OpenClaim := { program := "ytfkpeabkcdhcfaadoor", sum := "03c2905d9c76345cb9b7ca3bc3bba3a2c22016c9946c367f291adb16d9d44c5d", func := "diorama/dioramalaw07.SplitEnds", spec := "splitEnds", unfollowed := true, recurses := true, named := ["diorama/hash.constants"], apart := false, laid := [("diorama/hash.constants", laid_diorama_hash_constants)], narrowed := true }
def SplitEndsUptoSaid : Prop := splitEndsUptoRow.holds Tryd.pinned (OpenSpec.upto splitEndsSpec)

/-- 'dioramalaw16.RelateTargets', WHERE WHAT IT READS IS OF BULK AT MOST 1048576: true; the input reads as it did. -/
def relateTargetsUptoRow : OpenClaim := { program := "ytfkpeabkcdhcfaadoor", sum := "03c2905d9c76345cb9b7ca3bc3bba3a2c22016c9946c367f291adb16d9d44c5d", func := "diorama/dioramalaw16.RelateTargets", spec := "relateTargets", unfollowed := true, recurses := true, named := ["diorama/hash.constants", "diorama/dioramaref02.constants"], apart := false, laid := [("diorama/dioramaref02.constants", laid_diorama_dioramaref02_constants), ("diorama/hash.constants", laid_diorama_hash_constants)], narrowed := true }
def RelateTargetsUptoSaid : Prop := relateTargetsUptoRow.holds Tryd.pinned (OpenSpec.upto relateTargetsSpec)

/-- 'dioramalaw16.RelateRefs', WHERE WHAT IT READS IS OF BULK AT MOST 1048576: true; the input reads as it did. -/
def relateRefsUptoRow : OpenClaim := { program := "ytfkpeabkcdhcfaadoor", sum := "03c2905d9c76345cb9b7ca3bc3bba3a2c22016c9946c367f291adb16d9d44c5d", func := "diorama/dioramalaw16.RelateRefs", spec := "relateRefs", unfollowed := true, recurses := true, named := ["diorama/hash.constants", "diorama/dioramaref02.constants"], apart := false, laid := [("diorama/dioramaref02.constants", laid_diorama_dioramaref02_constants), ("diorama/hash.constants", laid_diorama_hash_constants)], narrowed := true }
def RelateRefsUptoSaid : Prop := relateRefsUptoRow.holds Tryd.pinned (OpenSpec.upto relateRefsSpec)

/-- 'dioramalaw16.RelateOnce', WHERE WHAT IT READS IS OF BULK AT MOST 1048576: true; the input reads as it did. -/
def relateOnceUptoRow : OpenClaim := { program := "ytfkpeabkcdhcfaadoor", sum := "03c2905d9c76345cb9b7ca3bc3bba3a2c22016c9946c367f291adb16d9d44c5d", func := "diorama/dioramalaw16.RelateOnce", spec := "relateOnce", unfollowed := true, recurses := true, named := ["diorama/hash.constants"], apart := false, laid := [("diorama/hash.constants", laid_diorama_hash_constants)], narrowed := true }
def RelateOnceUptoSaid : Prop := relateOnceUptoRow.holds Tryd.pinned (OpenSpec.upto relateOnceSpec)

/-- 'dioramalaw16.RelatePages', WHERE WHAT IT READS IS OF BULK AT MOST 1048576: true; the input reads as it did. -/
def relatePagesUptoRow : OpenClaim := { program := "ytfkpeabkcdhcfaadoor", sum := "03c2905d9c76345cb9b7ca3bc3bba3a2c22016c9946c367f291adb16d9d44c5d", func := "diorama/dioramalaw16.RelatePages", spec := "relatePages", unfollowed := true, recurses := true, named := ["diorama/hash.constants"], apart := false, laid := [("diorama/hash.constants", laid_diorama_hash_constants)], narrowed := true }
def RelatePagesUptoSaid : Prop := relatePagesUptoRow.holds Tryd.pinned (OpenSpec.upto relatePagesSpec)

end Rows
end Go.Proofs.YtfkpeabkcdhcfaaDoor
