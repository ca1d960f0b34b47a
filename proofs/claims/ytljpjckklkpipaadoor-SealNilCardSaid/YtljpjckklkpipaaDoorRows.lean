/-
  NARROWER THAN 'FOR EVERY INPUT', by the rows' own cells (each row's printed sentence says how): PleaSplits: laid · ProofChecks: laid · ProofOne: laid · ProofReplays: laid · ProofOrder: laid · TableReads: laid · PleaChecks: laid · PleaLocal: laid · TableSteps: laid · TableFull: laid · StockPlaces: laid · TableBack: laid · TableLoads: laid · SealTags: laid · SealNil: laid · MemoBytes: laid · SealNames: laid · MemoApart: laid · SealBytes: laid.
  DERIVED. THE GIVEN ROWS OF THIS SEAT. 19 by the template 'for every input the law returns true; each argument reads behind the call as it read before'; 0 by the template 'total and deterministic' (their statements: YtljpjckklkpipaaDoorTotals.lean).
  GIVEN WITH THE SEED: the statements are not yours to turn. If you find one false, say at which input.
  Laid BY PROGRAM, IN A SANDBOX (cutbox-rows.mjs): the forced cells as the released guide's own fill.sh prints them over the translation caac2a830f4bb817… (all of the seat's roots in one cut). By AI agents, Wed Nov 11 2026. No macro, syntax, notation, axiom, sorry.
-/
import Derived.Test.YtljpjckklkpipaaDoorChecked
import GoSem.Claim
import GoSem.ClaimJoined
import GoSem.ClaimMapViews
import Derived.JoinedTies
import Derived.KernelRfl
namespace Go.Proofs.YtljpjckklkpipaaDoor
/- THE CELL 'sum', in the pinned program and in every row, IS THE sha256 OF THE DUMP (.gsa) THAT YtljpjckklkpipaaDoorProg.lean LOADS. Nothing in Lean hashes anything: it is a label: what it is worth is what the hold of that sum in a sandbox is worth. -/
noncomputable def Tryd.pinned : Pinned := { name := "ytljpjckklkpipaadoor", sum := "caac2a830f4bb8172334c82bcf511ee7b93a49a04acc4057d5512656ff20d318", checked := Tryd.checked }
namespace Rows
def none {H : Type} : Left H := { results := [], args := [] }

/- WHAT THE LISTED PACKAGE-LEVEL VARIABLES READ AS WHEN THE CALL BEGINS. Each datum BY PROGRAM (the guide's laid-datum.mjs) off the statement by which the dump's own 'gosem.cut.vars' lays the variable. In a bare row this is a premise. The card (YtljpjckklkpipaaDoorCards.lean) ties it to the program's text. -/
def laid_wapentake_blake_rows {H : Type} : DataW H := .agg [.lit (.string [48, 49, 50, 51, 52, 53, 54, 55, 56, 57, 97, 98, 99, 100, 101, 102]), .lit (.string [101, 97, 52, 56, 57, 102, 100, 54, 49, 99, 48, 50, 98, 55, 53, 51]), .lit (.string [98, 56, 99, 48, 53, 50, 102, 100, 97, 101, 51, 54, 55, 49, 57, 52]), .lit (.string [55, 57, 51, 49, 100, 99, 98, 101, 50, 54, 53, 97, 52, 48, 102, 56]), .lit (.string [57, 48, 53, 55, 50, 52, 97, 102, 101, 49, 98, 99, 54, 56, 51, 100]), .lit (.string [50, 99, 54, 97, 48, 98, 56, 51, 52, 100, 55, 53, 102, 101, 49, 57]), .lit (.string [99, 53, 49, 102, 101, 100, 52, 97, 48, 55, 54, 51, 57, 50, 56, 98]), .lit (.string [100, 98, 55, 101, 99, 49, 51, 57, 53, 48, 102, 52, 56, 54, 50, 97]), .lit (.string [54, 102, 101, 57, 98, 51, 48, 56, 99, 50, 100, 55, 49, 52, 97, 53]), .lit (.string [97, 50, 56, 52, 55, 54, 49, 53, 102, 98, 57, 101, 51, 99, 100, 48])]
def laid_wapentake_blake_start {H : Type} : DataW H := .agg [.lit (.int .u32 1779033703), .lit (.int .u32 3144134277), .lit (.int .u32 1013904242), .lit (.int .u32 2773480762), .lit (.int .u32 1359893119), .lit (.int .u32 2600822924), .lit (.int .u32 528734635), .lit (.int .u32 1541459225)]
def laid_math_bits_deBruijn32tab {H : Type} : DataW H := .agg [.lit (.int .u8 0), .lit (.int .u8 1), .lit (.int .u8 28), .lit (.int .u8 2), .lit (.int .u8 29), .lit (.int .u8 14), .lit (.int .u8 24), .lit (.int .u8 3), .lit (.int .u8 30), .lit (.int .u8 22), .lit (.int .u8 20), .lit (.int .u8 15), .lit (.int .u8 25), .lit (.int .u8 17), .lit (.int .u8 4), .lit (.int .u8 8), .lit (.int .u8 31), .lit (.int .u8 27), .lit (.int .u8 13), .lit (.int .u8 23), .lit (.int .u8 21), .lit (.int .u8 19), .lit (.int .u8 16), .lit (.int .u8 7), .lit (.int .u8 26), .lit (.int .u8 12), .lit (.int .u8 18), .lit (.int .u8 6), .lit (.int .u8 11), .lit (.int .u8 5), .lit (.int .u8 10), .lit (.int .u8 9)]
def laid_math_bits_deBruijn64tab {H : Type} : DataW H := .agg [.lit (.int .u8 0), .lit (.int .u8 1), .lit (.int .u8 56), .lit (.int .u8 2), .lit (.int .u8 57), .lit (.int .u8 49), .lit (.int .u8 28), .lit (.int .u8 3), .lit (.int .u8 61), .lit (.int .u8 58), .lit (.int .u8 42), .lit (.int .u8 50), .lit (.int .u8 38), .lit (.int .u8 29), .lit (.int .u8 17), .lit (.int .u8 4), .lit (.int .u8 62), .lit (.int .u8 47), .lit (.int .u8 59), .lit (.int .u8 36), .lit (.int .u8 45), .lit (.int .u8 43), .lit (.int .u8 51), .lit (.int .u8 22), .lit (.int .u8 53), .lit (.int .u8 39), .lit (.int .u8 33), .lit (.int .u8 30), .lit (.int .u8 24), .lit (.int .u8 18), .lit (.int .u8 12), .lit (.int .u8 5), .lit (.int .u8 63), .lit (.int .u8 55), .lit (.int .u8 48), .lit (.int .u8 27), .lit (.int .u8 60), .lit (.int .u8 41), .lit (.int .u8 37), .lit (.int .u8 16), .lit (.int .u8 46), .lit (.int .u8 35), .lit (.int .u8 44), .lit (.int .u8 21), .lit (.int .u8 52), .lit (.int .u8 32), .lit (.int .u8 23), .lit (.int .u8 11), .lit (.int .u8 54), .lit (.int .u8 26), .lit (.int .u8 40), .lit (.int .u8 15), .lit (.int .u8 34), .lit (.int .u8 20), .lit (.int .u8 31), .lit (.int .u8 10), .lit (.int .u8 25), .lit (.int .u8 14), .lit (.int .u8 19), .lit (.int .u8 9), .lit (.int .u8 13), .lit (.int .u8 8), .lit (.int .u8 7), .lit (.int .u8 6)]
def laid_internal_strconv_uint64pow10 {H : Type} : DataW H := .agg [.lit (.int .u64 1), .lit (.int .u64 10), .lit (.int .u64 100), .lit (.int .u64 1000), .lit (.int .u64 10000), .lit (.int .u64 100000), .lit (.int .u64 1000000), .lit (.int .u64 10000000), .lit (.int .u64 100000000), .lit (.int .u64 1000000000), .lit (.int .u64 10000000000), .lit (.int .u64 100000000000), .lit (.int .u64 1000000000000), .lit (.int .u64 10000000000000), .lit (.int .u64 100000000000000), .lit (.int .u64 1000000000000000), .lit (.int .u64 10000000000000000), .lit (.int .u64 100000000000000000), .lit (.int .u64 1000000000000000000), .lit (.int .u64 10000000000000000000)]
def laid_strconv_ErrRange {H : Type} : DataW H := .iface "*errors.errorString" (.ptr (.agg [.lit (.string [118, 97, 108, 117, 101, 32, 111, 117, 116, 32, 111, 102, 32, 114, 97, 110, 103, 101])]))
def laid_strconv_ErrSyntax {H : Type} : DataW H := .iface "*errors.errorString" (.ptr (.agg [.lit (.string [105, 110, 118, 97, 108, 105, 100, 32, 115, 121, 110, 116, 97, 120])]))

/-- 'wapentakelaw27.PleaSplits': WHATEVER THE INPUT: true; the input reads as it did. -/
def pleaSplitsSpec : ChangeSpec := { name := "pleaSplits", fn := fun _ => fun
  | [d1, d2] => { results := [.lit (.bool true)], args := [d1, d2] }
  | _ => none }
def pleaSplitsRow : OpenClaim := { program := "ytljpjckklkpipaadoor", sum := "caac2a830f4bb8172334c82bcf511ee7b93a49a04acc4057d5512656ff20d318", func := "wapentake/wapentakelaw27.PleaSplits", spec := "pleaSplits", unfollowed := true, recurses := true, named := ["wapentake/blake.start", "wapentake/blake.rows"], plainKeys := false, apart := false, laid := [("wapentake/blake.rows", laid_wapentake_blake_rows), ("wapentake/blake.start", laid_wapentake_blake_start)] }
def PleaSplitsSaid : Prop := pleaSplitsRow.holds Tryd.pinned (OpenSpec.ofChange pleaSplitsSpec)

/-- ITS FALSE NEIGHBOUR: 'it returns false'. Refute it at one input. -/
def pleaSplitsWrong : ChangeSpec := { name := "pleaSplits", fn := fun _ => fun
  | [d1, d2] => { results := [.lit (.bool false)], args := [d1, d2] }
  | _ => none }
def PleaSplitsWrongFalsely : Prop := pleaSplitsRow.holds Tryd.pinned (OpenSpec.ofChange pleaSplitsWrong)

/-- 'wapentakelaw24.ProofChecks': WHATEVER THE INPUT: true; the input reads as it did. -/
def proofChecksSpec : ChangeSpec := { name := "proofChecks", fn := fun _ => fun
  | [d1, d2] => { results := [.lit (.bool true)], args := [d1, d2] }
  | _ => none }
def proofChecksRow : OpenClaim := { program := "ytljpjckklkpipaadoor", sum := "caac2a830f4bb8172334c82bcf511ee7b93a49a04acc4057d5512656ff20d318", func := "wapentake/wapentakelaw24.ProofChecks", spec := "proofChecks", inPlace := ["internal/bytealg.abigen_runtime_cmpstring"], unfollowed := true, recurses := true, named := ["wapentake/blake.start", "wapentake/blake.rows"], plainKeys := false, apart := false, laid := [("wapentake/blake.rows", laid_wapentake_blake_rows), ("wapentake/blake.start", laid_wapentake_blake_start)] }
def ProofChecksSaid : Prop := proofChecksRow.holds Tryd.pinned (OpenSpec.ofChange proofChecksSpec)

/-- ITS FALSE NEIGHBOUR: 'it returns false'. Refute it at one input. -/
def proofChecksWrong : ChangeSpec := { name := "proofChecks", fn := fun _ => fun
  | [d1, d2] => { results := [.lit (.bool false)], args := [d1, d2] }
  | _ => none }
def ProofChecksWrongFalsely : Prop := proofChecksRow.holds Tryd.pinned (OpenSpec.ofChange proofChecksWrong)

/-- 'wapentakelaw24.ProofOne': WHATEVER THE INPUT: true; the input reads as it did. -/
def proofOneSpec : ChangeSpec := { name := "proofOne", fn := fun _ => fun
  | [d1, d2] => { results := [.lit (.bool true)], args := [d1, d2] }
  | _ => none }
def proofOneRow : OpenClaim := { program := "ytljpjckklkpipaadoor", sum := "caac2a830f4bb8172334c82bcf511ee7b93a49a04acc4057d5512656ff20d318", func := "wapentake/wapentakelaw24.ProofOne", spec := "proofOne", inPlace := ["internal/bytealg.abigen_runtime_cmpstring"], unfollowed := true, recurses := true, named := ["wapentake/blake.start", "wapentake/blake.rows"], plainKeys := false, apart := false, laid := [("wapentake/blake.rows", laid_wapentake_blake_rows), ("wapentake/blake.start", laid_wapentake_blake_start)] }
def ProofOneSaid : Prop := proofOneRow.holds Tryd.pinned (OpenSpec.ofChange proofOneSpec)

/-- ITS FALSE NEIGHBOUR: 'it returns false'. Refute it at one input. -/
def proofOneWrong : ChangeSpec := { name := "proofOne", fn := fun _ => fun
  | [d1, d2] => { results := [.lit (.bool false)], args := [d1, d2] }
  | _ => none }
def ProofOneWrongFalsely : Prop := proofOneRow.holds Tryd.pinned (OpenSpec.ofChange proofOneWrong)

/-- 'wapentakelaw24.ProofReplays': WHATEVER THE INPUT: true; the input reads as it did. -/
def proofReplaysSpec : ChangeSpec := { name := "proofReplays", fn := fun _ => fun
  | [d] => { results := [.lit (.bool true)], args := [d] }
  | _ => none }
def proofReplaysRow : OpenClaim := { program := "ytljpjckklkpipaadoor", sum := "caac2a830f4bb8172334c82bcf511ee7b93a49a04acc4057d5512656ff20d318", func := "wapentake/wapentakelaw24.ProofReplays", spec := "proofReplays", inPlace := ["internal/bytealg.abigen_runtime_cmpstring"], unfollowed := true, recurses := true, named := ["wapentake/blake.start", "wapentake/blake.rows"], plainKeys := false, apart := false, laid := [("wapentake/blake.rows", laid_wapentake_blake_rows), ("wapentake/blake.start", laid_wapentake_blake_start)] }
def ProofReplaysSaid : Prop := proofReplaysRow.holds Tryd.pinned (OpenSpec.ofChange proofReplaysSpec)

/-- ITS FALSE NEIGHBOUR: 'it returns false'. Refute it at one input. -/
def proofReplaysWrong : ChangeSpec := { name := "proofReplays", fn := fun _ => fun
  | [d] => { results := [.lit (.bool false)], args := [d] }
  | _ => none }
def ProofReplaysWrongFalsely : Prop := proofReplaysRow.holds Tryd.pinned (OpenSpec.ofChange proofReplaysWrong)

/-- 'wapentakelaw24.ProofOrder': WHATEVER THE INPUT: true; the input reads as it did. -/
def proofOrderSpec : ChangeSpec := { name := "proofOrder", fn := fun _ => fun
  | [d1, d2] => { results := [.lit (.bool true)], args := [d1, d2] }
  | _ => none }
def proofOrderRow : OpenClaim := { program := "ytljpjckklkpipaadoor", sum := "caac2a830f4bb8172334c82bcf511ee7b93a49a04acc4057d5512656ff20d318", func := "wapentake/wapentakelaw24.ProofOrder", spec := "proofOrder", inPlace := ["internal/bytealg.abigen_runtime_cmpstring"], unfollowed := true, recurses := true, named := ["wapentake/blake.start", "wapentake/blake.rows"], plainKeys := false, apart := false, laid := [("wapentake/blake.rows", laid_wapentake_blake_rows), ("wapentake/blake.start", laid_wapentake_blake_start)] }
def ProofOrderSaid : Prop := proofOrderRow.holds Tryd.pinned (OpenSpec.ofChange proofOrderSpec)

/-- ITS FALSE NEIGHBOUR: 'it returns false'. Refute it at one input. -/
def proofOrderWrong : ChangeSpec := { name := "proofOrder", fn := fun _ => fun
  | [d1, d2] => { results := [.lit (.bool false)], args := [d1, d2] }
  | _ => none }
def ProofOrderWrongFalsely : Prop := proofOrderRow.holds Tryd.pinned (OpenSpec.ofChange proofOrderWrong)

/-- 'wapentakelaw13.TableReads': WHATEVER THE INPUT: true; the input reads as it did. -/
def tableReadsSpec : ChangeSpec := { name := "tableReads", fn := fun _ => fun
  | [d1, d2] => { results := [.lit (.bool true)], args := [d1, d2] }
  | _ => none }
def tableReadsRow : OpenClaim := { program := "ytljpjckklkpipaadoor", sum := "caac2a830f4bb8172334c82bcf511ee7b93a49a04acc4057d5512656ff20d318", func := "wapentake/wapentakelaw13.TableReads", spec := "tableReads", inPlace := ["internal/bytealg.abigen_runtime_cmpstring", "internal/abi.NoEscape"], unfollowed := true, recurses := true, named := ["internal/strconv.uint64pow10", "math/bits.deBruijn32tab", "math/bits.deBruijn64tab"], plainKeys := false, apart := false, laid := [("math/bits.deBruijn32tab", laid_math_bits_deBruijn32tab), ("math/bits.deBruijn64tab", laid_math_bits_deBruijn64tab), ("internal/strconv.uint64pow10", laid_internal_strconv_uint64pow10)] }
def TableReadsSaid : Prop := tableReadsRow.holds Tryd.pinned (OpenSpec.ofChange tableReadsSpec)

/-- ITS FALSE NEIGHBOUR: 'it returns false'. Refute it at one input. -/
def tableReadsWrong : ChangeSpec := { name := "tableReads", fn := fun _ => fun
  | [d1, d2] => { results := [.lit (.bool false)], args := [d1, d2] }
  | _ => none }
def TableReadsWrongFalsely : Prop := tableReadsRow.holds Tryd.pinned (OpenSpec.ofChange tableReadsWrong)

/-- 'wapentakelaw27.PleaChecks': WHATEVER THE INPUT: true; the input reads as it did. -/
def pleaChecksSpec : ChangeSpec := { name := "pleaChecks", fn := fun _ => fun
  | [d] => { results := [.lit (.bool true)], args := [d] }
  | _ => none }
def pleaChecksRow : OpenClaim := { program := "ytljpjckklkpipaadoor", sum := "caac2a830f4bb8172334c82bcf511ee7b93a49a04acc4057d5512656ff20d318", func := "wapentake/wapentakelaw27.PleaChecks", spec := "pleaChecks", inPlace := ["internal/bytealg.abigen_runtime_cmpstring"], unfollowed := true, recurses := true, named := ["wapentake/blake.start", "wapentake/blake.rows"], plainKeys := false, apart := false, laid := [("wapentake/blake.rows", laid_wapentake_blake_rows), ("wapentake/blake.start", laid_wapentake_blake_start)] }
def PleaChecksSaid : Prop := pleaChecksRow.holds Tryd.pinned (OpenSpec.ofChange pleaChecksSpec)

/-- ITS FALSE NEIGHBOUR: 'it returns false'. Refute it at one input. -/
def pleaChecksWrong : ChangeSpec := { name := "pleaChecks", fn := fun _ => fun
  | [d] => { results := [.lit (.bool false)], args := [d] }
  | _ => none }
def PleaChecksWrongFalsely : Prop := pleaChecksRow.holds Tryd.pinned (OpenSpec.ofChange pleaChecksWrong)

/-- 'wapentakelaw27.PleaLocal': WHATEVER THE INPUT: true; the input reads as it did. -/
def pleaLocalSpec : ChangeSpec := { name := "pleaLocal", fn := fun _ => fun
  | [d1, d2] => { results := [.lit (.bool true)], args := [d1, d2] }
  | _ => none }
def pleaLocalRow : OpenClaim := { program := "ytljpjckklkpipaadoor", sum := "caac2a830f4bb8172334c82bcf511ee7b93a49a04acc4057d5512656ff20d318", func := "wapentake/wapentakelaw27.PleaLocal", spec := "pleaLocal", inPlace := ["internal/bytealg.abigen_runtime_cmpstring"], unfollowed := true, recurses := true, named := ["wapentake/blake.start", "wapentake/blake.rows"], plainKeys := false, apart := false, laid := [("wapentake/blake.rows", laid_wapentake_blake_rows), ("wapentake/blake.start", laid_wapentake_blake_start)] }
def PleaLocalSaid : Prop := pleaLocalRow.holds Tryd.pinned (OpenSpec.ofChange pleaLocalSpec)

/-- ITS FALSE NEIGHBOUR: 'it returns false'. Refute it at one input. -/
def pleaLocalWrong : ChangeSpec := { name := "pleaLocal", fn := fun _ => fun
  | [d1, d2] => { results := [.lit (.bool false)], args := [d1, d2] }
  | _ => none }
def PleaLocalWrongFalsely : Prop := pleaLocalRow.holds Tryd.pinned (OpenSpec.ofChange pleaLocalWrong)

/-- 'wapentakelaw13.TableSteps': WHATEVER THE INPUT: true; the input reads as it did. -/
def tableStepsSpec : ChangeSpec := { name := "tableSteps", fn := fun _ => fun
  | [d] => { results := [.lit (.bool true)], args := [d] }
  | _ => none }
def tableStepsRow : OpenClaim := { program := "ytljpjckklkpipaadoor", sum := "caac2a830f4bb8172334c82bcf511ee7b93a49a04acc4057d5512656ff20d318", func := "wapentake/wapentakelaw13.TableSteps", spec := "tableSteps", inPlace := ["internal/bytealg.abigen_runtime_cmpstring", "internal/abi.NoEscape"], unfollowed := true, recurses := true, named := ["internal/strconv.uint64pow10", "math/bits.deBruijn32tab", "math/bits.deBruijn64tab"], plainKeys := false, apart := false, laid := [("math/bits.deBruijn32tab", laid_math_bits_deBruijn32tab), ("math/bits.deBruijn64tab", laid_math_bits_deBruijn64tab), ("internal/strconv.uint64pow10", laid_internal_strconv_uint64pow10)] }
def TableStepsSaid : Prop := tableStepsRow.holds Tryd.pinned (OpenSpec.ofChange tableStepsSpec)

/-- ITS FALSE NEIGHBOUR: 'it returns false'. Refute it at one input. -/
def tableStepsWrong : ChangeSpec := { name := "tableSteps", fn := fun _ => fun
  | [d] => { results := [.lit (.bool false)], args := [d] }
  | _ => none }
def TableStepsWrongFalsely : Prop := tableStepsRow.holds Tryd.pinned (OpenSpec.ofChange tableStepsWrong)

/-- 'wapentakelaw13.TableFull': WHATEVER THE INPUT: true; the input reads as it did. -/
def tableFullSpec : ChangeSpec := { name := "tableFull", fn := fun _ => fun
  | [d1, d2] => { results := [.lit (.bool true)], args := [d1, d2] }
  | _ => none }
def tableFullRow : OpenClaim := { program := "ytljpjckklkpipaadoor", sum := "caac2a830f4bb8172334c82bcf511ee7b93a49a04acc4057d5512656ff20d318", func := "wapentake/wapentakelaw13.TableFull", spec := "tableFull", inPlace := ["internal/bytealg.abigen_runtime_cmpstring", "internal/abi.NoEscape"], unfollowed := true, recurses := true, named := ["internal/strconv.uint64pow10", "math/bits.deBruijn32tab", "math/bits.deBruijn64tab"], plainKeys := false, apart := false, laid := [("math/bits.deBruijn32tab", laid_math_bits_deBruijn32tab), ("math/bits.deBruijn64tab", laid_math_bits_deBruijn64tab), ("internal/strconv.uint64pow10", laid_internal_strconv_uint64pow10)] }
def TableFullSaid : Prop := tableFullRow.holds Tryd.pinned (OpenSpec.ofChange tableFullSpec)

/-- ITS FALSE NEIGHBOUR: 'it returns false'. Refute it at one input. -/
def tableFullWrong : ChangeSpec := { name := "tableFull", fn := fun _ => fun
  | [d1, d2] => { results := [.lit (.bool false)], args := [d1, d2] }
  | _ => none }
def TableFullWrongFalsely : Prop := tableFullRow.holds Tryd.pinned (OpenSpec.ofChange tableFullWrong)

/-- 'wapentakelaw16.StockPlaces': WHATEVER THE INPUT: true; the input reads as it did. -/
def stockPlacesSpec : ChangeSpec := { name := "stockPlaces", fn := fun _ => fun
  | [d] => { results := [.lit (.bool true)], args := [d] }
  | _ => none }
def stockPlacesRow : OpenClaim := { program := "ytljpjckklkpipaadoor", sum := "caac2a830f4bb8172334c82bcf511ee7b93a49a04acc4057d5512656ff20d318", func := "wapentake/wapentakelaw16.StockPlaces", spec := "stockPlaces", inPlace := ["internal/abi.NoEscape"], named := ["internal/strconv.uint64pow10", "math/bits.deBruijn32tab", "math/bits.deBruijn64tab", "wapentake/blake.start", "wapentake/blake.rows"], plainKeys := false, apart := false, laid := [("math/bits.deBruijn32tab", laid_math_bits_deBruijn32tab), ("math/bits.deBruijn64tab", laid_math_bits_deBruijn64tab), ("internal/strconv.uint64pow10", laid_internal_strconv_uint64pow10), ("wapentake/blake.rows", laid_wapentake_blake_rows), ("wapentake/blake.start", laid_wapentake_blake_start)] }
def StockPlacesSaid : Prop := stockPlacesRow.holds Tryd.pinned (OpenSpec.ofChange stockPlacesSpec)

/-- ITS FALSE NEIGHBOUR: 'it returns false'. Refute it at one input. -/
def stockPlacesWrong : ChangeSpec := { name := "stockPlaces", fn := fun _ => fun
  | [d] => { results := [.lit (.bool false)], args := [d] }
  | _ => none }
def StockPlacesWrongFalsely : Prop := stockPlacesRow.holds Tryd.pinned (OpenSpec.ofChange stockPlacesWrong)

/-- 'wapentakelaw13.TableBack': WHATEVER THE INPUT: true; the input reads as it did. -/
def tableBackSpec : ChangeSpec := { name := "tableBack", fn := fun _ => fun
  | [d1, d2] => { results := [.lit (.bool true)], args := [d1, d2] }
  | _ => none }
def tableBackRow : OpenClaim := { program := "ytljpjckklkpipaadoor", sum := "caac2a830f4bb8172334c82bcf511ee7b93a49a04acc4057d5512656ff20d318", func := "wapentake/wapentakelaw13.TableBack", spec := "tableBack", inPlace := ["internal/bytealg.abigen_runtime_cmpstring", "internal/abi.NoEscape", "internal/bytealg.IndexByteString", "internal/bytealg.IndexString"], unfollowed := true, recurses := true, named := ["internal/strconv.uint64pow10", "math/bits.deBruijn32tab", "math/bits.deBruijn64tab", "internal/bytealg.MaxLen", "strconv.ErrSyntax", "strconv.ErrRange"], plainKeys := false, apart := false, laid := [("math/bits.deBruijn32tab", laid_math_bits_deBruijn32tab), ("math/bits.deBruijn64tab", laid_math_bits_deBruijn64tab), ("internal/strconv.uint64pow10", laid_internal_strconv_uint64pow10), ("strconv.ErrRange", laid_strconv_ErrRange), ("strconv.ErrSyntax", laid_strconv_ErrSyntax)] }
def TableBackSaid : Prop := tableBackRow.holds Tryd.pinned (OpenSpec.ofChange tableBackSpec)

/-- ITS FALSE NEIGHBOUR: 'it returns false'. Refute it at one input. -/
def tableBackWrong : ChangeSpec := { name := "tableBack", fn := fun _ => fun
  | [d1, d2] => { results := [.lit (.bool false)], args := [d1, d2] }
  | _ => none }
def TableBackWrongFalsely : Prop := tableBackRow.holds Tryd.pinned (OpenSpec.ofChange tableBackWrong)

/-- 'wapentakelaw13.TableLoads': WHATEVER THE INPUT: true; the input reads as it did. -/
def tableLoadsSpec : ChangeSpec := { name := "tableLoads", fn := fun _ => fun
  | [d] => { results := [.lit (.bool true)], args := [d] }
  | _ => none }
def tableLoadsRow : OpenClaim := { program := "ytljpjckklkpipaadoor", sum := "caac2a830f4bb8172334c82bcf511ee7b93a49a04acc4057d5512656ff20d318", func := "wapentake/wapentakelaw13.TableLoads", spec := "tableLoads", inPlace := ["internal/bytealg.abigen_runtime_cmpstring", "internal/abi.NoEscape", "internal/bytealg.IndexByteString", "internal/bytealg.IndexString"], unfollowed := true, recurses := true, named := ["internal/strconv.uint64pow10", "math/bits.deBruijn32tab", "math/bits.deBruijn64tab", "internal/bytealg.MaxLen", "strconv.ErrSyntax", "strconv.ErrRange"], plainKeys := false, apart := false, laid := [("math/bits.deBruijn32tab", laid_math_bits_deBruijn32tab), ("math/bits.deBruijn64tab", laid_math_bits_deBruijn64tab), ("internal/strconv.uint64pow10", laid_internal_strconv_uint64pow10), ("strconv.ErrRange", laid_strconv_ErrRange), ("strconv.ErrSyntax", laid_strconv_ErrSyntax)] }
def TableLoadsSaid : Prop := tableLoadsRow.holds Tryd.pinned (OpenSpec.ofChange tableLoadsSpec)

/-- ITS FALSE NEIGHBOUR: 'it returns false'. Refute it at one input. -/
def tableLoadsWrong : ChangeSpec := { name := "tableLoads", fn := fun _ => fun
  | [d] => { results := [.lit (.bool false)], args := [d] }
  | _ => none }
def TableLoadsWrongFalsely : Prop := tableLoadsRow.holds Tryd.pinned (OpenSpec.ofChange tableLoadsWrong)

/-- 'wapentakelaw03.SealTags': WHATEVER THE INPUT: true; the input reads as it did. -/
def sealTagsSpec : ChangeSpec := { name := "sealTags", fn := fun _ => fun
  | [d1, d2, d3] => { results := [.lit (.bool true)], args := [d1, d2, d3] }
  | _ => none }
def sealTagsRow : OpenClaim := { program := "ytljpjckklkpipaadoor", sum := "caac2a830f4bb8172334c82bcf511ee7b93a49a04acc4057d5512656ff20d318", func := "wapentake/wapentakelaw03.SealTags", spec := "sealTags", inPlace := ["internal/abi.NoEscape"], named := ["internal/strconv.uint64pow10", "math/bits.deBruijn32tab", "math/bits.deBruijn64tab", "wapentake/blake.start", "wapentake/blake.rows"], plainKeys := false, apart := false, laid := [("math/bits.deBruijn32tab", laid_math_bits_deBruijn32tab), ("math/bits.deBruijn64tab", laid_math_bits_deBruijn64tab), ("internal/strconv.uint64pow10", laid_internal_strconv_uint64pow10), ("wapentake/blake.rows", laid_wapentake_blake_rows), ("wapentake/blake.start", laid_wapentake_blake_start)] }
def SealTagsSaid : Prop := sealTagsRow.holds Tryd.pinned (OpenSpec.ofChange sealTagsSpec)

/-- ITS FALSE NEIGHBOUR: 'it returns false'. Refute it at one input. -/
def sealTagsWrong : ChangeSpec := { name := "sealTags", fn := fun _ => fun
  | [d1, d2, d3] => { results := [.lit (.bool false)], args := [d1, d2, d3] }
  | _ => none }
def SealTagsWrongFalsely : Prop := sealTagsRow.holds Tryd.pinned (OpenSpec.ofChange sealTagsWrong)

/-- 'wapentakelaw03.SealNil': WHATEVER THE INPUT: true; the input reads as it did. -/
def sealNilSpec : ChangeSpec := { name := "sealNil", fn := fun _ => fun
  | [d] => { results := [.lit (.bool true)], args := [d] }
  | _ => none }
def sealNilRow : OpenClaim := { program := "ytljpjckklkpipaadoor", sum := "caac2a830f4bb8172334c82bcf511ee7b93a49a04acc4057d5512656ff20d318", func := "wapentake/wapentakelaw03.SealNil", spec := "sealNil", inPlace := ["internal/abi.NoEscape"], named := ["internal/strconv.uint64pow10", "math/bits.deBruijn32tab", "math/bits.deBruijn64tab", "wapentake/blake.start", "wapentake/blake.rows"], plainKeys := false, apart := false, laid := [("math/bits.deBruijn32tab", laid_math_bits_deBruijn32tab), ("math/bits.deBruijn64tab", laid_math_bits_deBruijn64tab), ("internal/strconv.uint64pow10", laid_internal_strconv_uint64pow10), ("wapentake/blake.rows", laid_wapentake_blake_rows), ("wapentake/blake.start", laid_wapentake_blake_start)] }
def SealNilSaid : Prop := sealNilRow.holds Tryd.pinned (OpenSpec.ofChange sealNilSpec)

/-- ITS FALSE NEIGHBOUR: 'it returns false'. Refute it at one input. -/
def sealNilWrong : ChangeSpec := { name := "sealNil", fn := fun _ => fun
  | [d] => { results := [.lit (.bool false)], args := [d] }
  | _ => none }
def SealNilWrongFalsely : Prop := sealNilRow.holds Tryd.pinned (OpenSpec.ofChange sealNilWrong)

/-- 'wapentakelaw19.MemoBytes': WHATEVER THE INPUT: true; the input reads as it did. -/
def memoBytesSpec : ChangeSpec := { name := "memoBytes", fn := fun _ => fun
  | [d1, d2] => { results := [.lit (.bool true)], args := [d1, d2] }
  | _ => none }
def memoBytesRow : OpenClaim := { program := "ytljpjckklkpipaadoor", sum := "caac2a830f4bb8172334c82bcf511ee7b93a49a04acc4057d5512656ff20d318", func := "wapentake/wapentakelaw19.MemoBytes", spec := "memoBytes", inPlace := ["internal/abi.NoEscape", "internal/bytealg.IndexByteString", "internal/bytealg.IndexString"], unfollowed := true, recurses := true, named := ["internal/strconv.uint64pow10", "math/bits.deBruijn32tab", "math/bits.deBruijn64tab", "internal/bytealg.MaxLen", "strconv.ErrSyntax", "strconv.ErrRange"], plainKeys := false, apart := false, laid := [("math/bits.deBruijn32tab", laid_math_bits_deBruijn32tab), ("math/bits.deBruijn64tab", laid_math_bits_deBruijn64tab), ("internal/strconv.uint64pow10", laid_internal_strconv_uint64pow10), ("strconv.ErrRange", laid_strconv_ErrRange), ("strconv.ErrSyntax", laid_strconv_ErrSyntax)] }
def MemoBytesSaid : Prop := memoBytesRow.holds Tryd.pinned (OpenSpec.ofChange memoBytesSpec)

/-- ITS FALSE NEIGHBOUR: 'it returns false'. Refute it at one input. -/
def memoBytesWrong : ChangeSpec := { name := "memoBytes", fn := fun _ => fun
  | [d1, d2] => { results := [.lit (.bool false)], args := [d1, d2] }
  | _ => none }
def MemoBytesWrongFalsely : Prop := memoBytesRow.holds Tryd.pinned (OpenSpec.ofChange memoBytesWrong)

/-- 'wapentakelaw03.SealNames': WHATEVER THE INPUT: true; the input reads as it did. -/
def sealNamesSpec : ChangeSpec := { name := "sealNames", fn := fun _ => fun
  | [d1, d2] => { results := [.lit (.bool true)], args := [d1, d2] }
  | _ => none }
def sealNamesRow : OpenClaim := { program := "ytljpjckklkpipaadoor", sum := "caac2a830f4bb8172334c82bcf511ee7b93a49a04acc4057d5512656ff20d318", func := "wapentake/wapentakelaw03.SealNames", spec := "sealNames", inPlace := ["internal/abi.NoEscape", "internal/bytealg.IndexByteString", "internal/bytealg.IndexString"], unfollowed := true, recurses := true, named := ["internal/strconv.uint64pow10", "math/bits.deBruijn32tab", "math/bits.deBruijn64tab", "internal/bytealg.MaxLen", "strconv.ErrSyntax", "strconv.ErrRange", "wapentake/blake.start", "wapentake/blake.rows"], plainKeys := false, apart := false, laid := [("math/bits.deBruijn32tab", laid_math_bits_deBruijn32tab), ("math/bits.deBruijn64tab", laid_math_bits_deBruijn64tab), ("internal/strconv.uint64pow10", laid_internal_strconv_uint64pow10), ("strconv.ErrRange", laid_strconv_ErrRange), ("strconv.ErrSyntax", laid_strconv_ErrSyntax), ("wapentake/blake.rows", laid_wapentake_blake_rows), ("wapentake/blake.start", laid_wapentake_blake_start)] }
def SealNamesSaid : Prop := sealNamesRow.holds Tryd.pinned (OpenSpec.ofChange sealNamesSpec)

/-- ITS FALSE NEIGHBOUR: 'it returns false'. Refute it at one input. -/
def sealNamesWrong : ChangeSpec := { name := "sealNames", fn := fun _ => fun
  | [d1, d2] => { results := [.lit (.bool false)], args := [d1, d2] }
  | _ => none }
def SealNamesWrongFalsely : Prop := sealNamesRow.holds Tryd.pinned (OpenSpec.ofChange sealNamesWrong)

/-- 'wapentakelaw19.MemoApart': WHATEVER THE INPUT: true; the input reads as it did. -/
def memoApartSpec : ChangeSpec := { name := "memoApart", fn := fun _ => fun
  | [d1, d2] => { results := [.lit (.bool true)], args := [d1, d2] }
  | _ => none }
def memoApartRow : OpenClaim := { program := "ytljpjckklkpipaadoor", sum := "caac2a830f4bb8172334c82bcf511ee7b93a49a04acc4057d5512656ff20d318", func := "wapentake/wapentakelaw19.MemoApart", spec := "memoApart", inPlace := ["internal/abi.NoEscape", "internal/bytealg.IndexByteString", "internal/bytealg.IndexString"], unfollowed := true, recurses := true, named := ["internal/strconv.uint64pow10", "math/bits.deBruijn32tab", "math/bits.deBruijn64tab", "internal/bytealg.MaxLen", "strconv.ErrSyntax", "strconv.ErrRange"], plainKeys := false, apart := false, laid := [("math/bits.deBruijn32tab", laid_math_bits_deBruijn32tab), ("math/bits.deBruijn64tab", laid_math_bits_deBruijn64tab), ("internal/strconv.uint64pow10", laid_internal_strconv_uint64pow10), ("strconv.ErrRange", laid_strconv_ErrRange), ("strconv.ErrSyntax", laid_strconv_ErrSyntax)] }
def MemoApartSaid : Prop := memoApartRow.holds Tryd.pinned (OpenSpec.ofChange memoApartSpec)

/-- ITS FALSE NEIGHBOUR: 'it returns false'. Refute it at one input. -/
def memoApartWrong : ChangeSpec := { name := "memoApart", fn := fun _ => fun
  | [d1, d2] => { results := [.lit (.bool false)], args := [d1, d2] }
  | _ => none }
def MemoApartWrongFalsely : Prop := memoApartRow.holds Tryd.pinned (OpenSpec.ofChange memoApartWrong)

/-- 'wapentakelaw03.SealBytes': WHATEVER THE INPUT: true; the input reads as it did. -/
def sealBytesSpec : ChangeSpec := { name := "sealBytes", fn := fun _ => fun
  | [d1, d2] => { results := [.lit (.bool true)], args := [d1, d2] }
  | _ => none }
def sealBytesRow : OpenClaim := { program := "ytljpjckklkpipaadoor", sum := "caac2a830f4bb8172334c82bcf511ee7b93a49a04acc4057d5512656ff20d318", func := "wapentake/wapentakelaw03.SealBytes", spec := "sealBytes", inPlace := ["internal/abi.NoEscape", "internal/bytealg.IndexByteString", "internal/bytealg.IndexString"], unfollowed := true, recurses := true, named := ["internal/strconv.uint64pow10", "math/bits.deBruijn32tab", "math/bits.deBruijn64tab", "wapentake/blake.start", "wapentake/blake.rows", "internal/bytealg.MaxLen", "strconv.ErrSyntax", "strconv.ErrRange"], plainKeys := false, apart := false, laid := [("math/bits.deBruijn32tab", laid_math_bits_deBruijn32tab), ("math/bits.deBruijn64tab", laid_math_bits_deBruijn64tab), ("internal/strconv.uint64pow10", laid_internal_strconv_uint64pow10), ("strconv.ErrRange", laid_strconv_ErrRange), ("strconv.ErrSyntax", laid_strconv_ErrSyntax), ("wapentake/blake.rows", laid_wapentake_blake_rows), ("wapentake/blake.start", laid_wapentake_blake_start)] }
def SealBytesSaid : Prop := sealBytesRow.holds Tryd.pinned (OpenSpec.ofChange sealBytesSpec)

/-- ITS FALSE NEIGHBOUR: 'it returns false'. Refute it at one input. -/
def sealBytesWrong : ChangeSpec := { name := "sealBytes", fn := fun _ => fun
  | [d1, d2] => { results := [.lit (.bool false)], args := [d1, d2] }
  | _ => none }
def SealBytesWrongFalsely : Prop := sealBytesRow.holds Tryd.pinned (OpenSpec.ofChange sealBytesWrong)

/- THE SECOND FORM. 'bulk': how many values and letters a reading holds, each counted each time it is reached (what is shared counts as often as it is met; a slice's spare places count too). A statement '..UptoSaid' is the law's where the arguments, and the package variables that the reading takes, are together of bulk at most 1048576: NARROWER than '..Said'. Prove '..Said' where nothing that the law and all that it calls make is longer than what came in: it says more and counts as full. Else prove '..UptoSaid'. A law counts once. -/
mutual
def uptoBulk {H : Type} : DataW H → Nat
  | .lit (.string bytes) => bytes.length + 1
  | .lit _ => 1
  | .nil => 1
  | .ptr d => uptoBulk d + 1
  | .slice elems spare => uptoBulkAll elems + uptoBulkAll spare + 1
  | .agg parts => uptoBulkAll parts + 1
  | .iface _ d => uptoBulk d + 1
  | .map entries => uptoBulkEntries entries + 1
  | .held _ => 1
def uptoBulkAll {H : Type} : List (DataW H) → Nat
  | [] => 0
  | d :: r => uptoBulk d + uptoBulkAll r
def uptoBulkEntries {H : Type} : List (Lit × DataW H) → Nat
  | [] => 0
  | x :: r => uptoBulkEntry x + uptoBulkEntries r
def uptoBulkEntry {H : Type} : Lit × DataW H → Nat
  | (.string bytes, d) => bytes.length + uptoBulk d + 1
  | (_, d) => uptoBulk d + 1
 end
def uptoSmall : (H : Type) → List (DataW H) → Bool := fun _ ds => decide (uptoBulkAll ds ≤ 1048576)
def OpenSpec.upto (s : _root_.Go.ChangeSpec) : _root_.Go.OpenSpec := { _root_.Go.OpenSpec.ofChange s with cond := some uptoSmall }

/-- 'wapentakelaw27.PleaSplits', WHERE WHAT IT READS IS OF BULK AT MOST 1048576: true; the input reads as it did. -/
def pleaSplitsUptoRow : OpenClaim := { program := "ytljpjckklkpipaadoor", sum := "caac2a830f4bb8172334c82bcf511ee7b93a49a04acc4057d5512656ff20d318", func := "wapentake/wapentakelaw27.PleaSplits", spec := "pleaSplits", unfollowed := true, recurses := true, named := ["wapentake/blake.start", "wapentake/blake.rows"], plainKeys := false, apart := false, laid := [("wapentake/blake.rows", laid_wapentake_blake_rows), ("wapentake/blake.start", laid_wapentake_blake_start)], narrowed := true }
def PleaSplitsUptoSaid : Prop := pleaSplitsUptoRow.holds Tryd.pinned (OpenSpec.upto pleaSplitsSpec)

/-- 'wapentakelaw24.ProofChecks', WHERE WHAT IT READS IS OF BULK AT MOST 1048576: true; the input reads as it did. -/
def proofChecksUptoRow : OpenClaim := { program := "ytljpjckklkpipaadoor", sum := "caac2a830f4bb8172334c82bcf511ee7b93a49a04acc4057d5512656ff20d318", func := "wapentake/wapentakelaw24.ProofChecks", spec := "proofChecks", inPlace := ["internal/bytealg.abigen_runtime_cmpstring"], unfollowed := true, recurses := true, named := ["wapentake/blake.start", "wapentake/blake.rows"], plainKeys := false, apart := false, laid := [("wapentake/blake.rows", laid_wapentake_blake_rows), ("wapentake/blake.start", laid_wapentake_blake_start)], narrowed := true }
def ProofChecksUptoSaid : Prop := proofChecksUptoRow.holds Tryd.pinned (OpenSpec.upto proofChecksSpec)

/-- 'wapentakelaw24.ProofOne', WHERE WHAT IT READS IS OF BULK AT MOST 1048576: true; the input reads as it did. -/
def proofOneUptoRow : OpenClaim := { program := "ytljpjckklkpipaadoor", sum := "caac2a830f4bb8172334c82bcf511ee7b93a49a04acc4057d5512656ff20d318", func := "wapentake/wapentakelaw24.ProofOne", spec := "proofOne", inPlace := ["internal/bytealg.abigen_runtime_cmpstring"], unfollowed := true, recurses := true, named := ["wapentake/blake.start", "wapentake/blake.rows"], plainKeys := false, apart := false, laid := [("wapentake/blake.rows", laid_wapentake_blake_rows), ("wapentake/blake.start", laid_wapentake_blake_start)], narrowed := true }
def ProofOneUptoSaid : Prop := proofOneUptoRow.holds Tryd.pinned (OpenSpec.upto proofOneSpec)

/-- 'wapentakelaw24.ProofReplays', WHERE WHAT IT READS IS OF BULK AT MOST 1048576: true; the input reads as it did. -/
def proofReplaysUptoRow : OpenClaim := { program := "ytljpjckklkpipaadoor", sum := "caac2a830f4bb8172334c82bcf511ee7b93a49a04acc4057d5512656ff20d318", func := "wapentake/wapentakelaw24.ProofReplays", spec := "proofReplays", inPlace := ["internal/bytealg.abigen_runtime_cmpstring"], unfollowed := true, recurses := true, named := ["wapentake/blake.start", "wapentake/blake.rows"], plainKeys := false, apart := false, laid := [("wapentake/blake.rows", laid_wapentake_blake_rows), ("wapentake/blake.start", laid_wapentake_blake_start)], narrowed := true }
def ProofReplaysUptoSaid : Prop := proofReplaysUptoRow.holds Tryd.pinned (OpenSpec.upto proofReplaysSpec)

/-- 'wapentakelaw24.ProofOrder', WHERE WHAT IT READS IS OF BULK AT MOST 1048576: true; the input reads as it did. -/
def proofOrderUptoRow : OpenClaim := { program := "ytljpjckklkpipaadoor", sum := "caac2a830f4bb8172334c82bcf511ee7b93a49a04acc4057d5512656ff20d318", func := "wapentake/wapentakelaw24.ProofOrder", spec := "proofOrder", inPlace := ["internal/bytealg.abigen_runtime_cmpstring"], unfollowed := true, recurses := true, named := ["wapentake/blake.start", "wapentake/blake.rows"], plainKeys := false, apart := false, laid := [("wapentake/blake.rows", laid_wapentake_blake_rows), ("wapentake/blake.start", laid_wapentake_blake_start)], narrowed := true }
def ProofOrderUptoSaid : Prop := proofOrderUptoRow.holds Tryd.pinned (OpenSpec.upto proofOrderSpec)

/-- 'wapentakelaw13.TableReads', WHERE WHAT IT READS IS OF BULK AT MOST 1048576: true; the input reads as it did. -/
def tableReadsUptoRow : OpenClaim := { program := "ytljpjckklkpipaadoor", sum := "caac2a830f4bb8172334c82bcf511ee7b93a49a04acc4057d5512656ff20d318", func := "wapentake/wapentakelaw13.TableReads", spec := "tableReads", inPlace := ["internal/bytealg.abigen_runtime_cmpstring", "internal/abi.NoEscape"], unfollowed := true, recurses := true, named := ["internal/strconv.uint64pow10", "math/bits.deBruijn32tab", "math/bits.deBruijn64tab"], plainKeys := false, apart := false, laid := [("math/bits.deBruijn32tab", laid_math_bits_deBruijn32tab), ("math/bits.deBruijn64tab", laid_math_bits_deBruijn64tab), ("internal/strconv.uint64pow10", laid_internal_strconv_uint64pow10)], narrowed := true }
def TableReadsUptoSaid : Prop := tableReadsUptoRow.holds Tryd.pinned (OpenSpec.upto tableReadsSpec)

/-- 'wapentakelaw27.PleaChecks', WHERE WHAT IT READS IS OF BULK AT MOST 1048576: true; the input reads as it did. -/
def pleaChecksUptoRow : OpenClaim := { program := "ytljpjckklkpipaadoor", sum := "caac2a830f4bb8172334c82bcf511ee7b93a49a04acc4057d5512656ff20d318", func := "wapentake/wapentakelaw27.PleaChecks", spec := "pleaChecks", inPlace := ["internal/bytealg.abigen_runtime_cmpstring"], unfollowed := true, recurses := true, named := ["wapentake/blake.start", "wapentake/blake.rows"], plainKeys := false, apart := false, laid := [("wapentake/blake.rows", laid_wapentake_blake_rows), ("wapentake/blake.start", laid_wapentake_blake_start)], narrowed := true }
def PleaChecksUptoSaid : Prop := pleaChecksUptoRow.holds Tryd.pinned (OpenSpec.upto pleaChecksSpec)

/-- 'wapentakelaw27.PleaLocal', WHERE WHAT IT READS IS OF BULK AT MOST 1048576: true; the input reads as it did. -/
def pleaLocalUptoRow : OpenClaim := { program := "ytljpjckklkpipaadoor", sum := "caac2a830f4bb8172334c82bcf511ee7b93a49a04acc4057d5512656ff20d318", func := "wapentake/wapentakelaw27.PleaLocal", spec := "pleaLocal", inPlace := ["internal/bytealg.abigen_runtime_cmpstring"], unfollowed := true, recurses := true, named := ["wapentake/blake.start", "wapentake/blake.rows"], plainKeys := false, apart := false, laid := [("wapentake/blake.rows", laid_wapentake_blake_rows), ("wapentake/blake.start", laid_wapentake_blake_start)], narrowed := true }
def PleaLocalUptoSaid : Prop := pleaLocalUptoRow.holds Tryd.pinned (OpenSpec.upto pleaLocalSpec)

/-- 'wapentakelaw13.TableSteps', WHERE WHAT IT READS IS OF BULK AT MOST 1048576: true; the input reads as it did. -/
def tableStepsUptoRow : OpenClaim := { program := "ytljpjckklkpipaadoor", sum := "caac2a830f4bb8172334c82bcf511ee7b93a49a04acc4057d5512656ff20d318", func := "wapentake/wapentakelaw13.TableSteps", spec := "tableSteps", inPlace := ["internal/bytealg.abigen_runtime_cmpstring", "internal/abi.NoEscape"], unfollowed := true, recurses := true, named := ["internal/strconv.uint64pow10", "math/bits.deBruijn32tab", "math/bits.deBruijn64tab"], plainKeys := false, apart := false, laid := [("math/bits.deBruijn32tab", laid_math_bits_deBruijn32tab), ("math/bits.deBruijn64tab", laid_math_bits_deBruijn64tab), ("internal/strconv.uint64pow10", laid_internal_strconv_uint64pow10)], narrowed := true }
def TableStepsUptoSaid : Prop := tableStepsUptoRow.holds Tryd.pinned (OpenSpec.upto tableStepsSpec)

/-- 'wapentakelaw13.TableFull', WHERE WHAT IT READS IS OF BULK AT MOST 1048576: true; the input reads as it did. -/
def tableFullUptoRow : OpenClaim := { program := "ytljpjckklkpipaadoor", sum := "caac2a830f4bb8172334c82bcf511ee7b93a49a04acc4057d5512656ff20d318", func := "wapentake/wapentakelaw13.TableFull", spec := "tableFull", inPlace := ["internal/bytealg.abigen_runtime_cmpstring", "internal/abi.NoEscape"], unfollowed := true, recurses := true, named := ["internal/strconv.uint64pow10", "math/bits.deBruijn32tab", "math/bits.deBruijn64tab"], plainKeys := false, apart := false, laid := [("math/bits.deBruijn32tab", laid_math_bits_deBruijn32tab), ("math/bits.deBruijn64tab", laid_math_bits_deBruijn64tab), ("internal/strconv.uint64pow10", laid_internal_strconv_uint64pow10)], narrowed := true }
def TableFullUptoSaid : Prop := tableFullUptoRow.holds Tryd.pinned (OpenSpec.upto tableFullSpec)

/-- 'wapentakelaw16.StockPlaces', WHERE WHAT IT READS IS OF BULK AT MOST 1048576: true; the input reads as it did. -/
def stockPlacesUptoRow : OpenClaim := { program := "ytljpjckklkpipaadoor", sum := "caac2a830f4bb8172334c82bcf511ee7b93a49a04acc4057d5512656ff20d318", func := "wapentake/wapentakelaw16.StockPlaces", spec := "stockPlaces", inPlace := ["internal/abi.NoEscape"], named := ["internal/strconv.uint64pow10", "math/bits.deBruijn32tab", "math/bits.deBruijn64tab", "wapentake/blake.start", "wapentake/blake.rows"], plainKeys := false, apart := false, laid := [("math/bits.deBruijn32tab", laid_math_bits_deBruijn32tab), ("math/bits.deBruijn64tab", laid_math_bits_deBruijn64tab), ("internal/strconv.uint64pow10", laid_internal_strconv_uint64pow10), ("wapentake/blake.rows", laid_wapentake_blake_rows), ("wapentake/blake.start", laid_wapentake_blake_start)], narrowed := true }
def StockPlacesUptoSaid : Prop := stockPlacesUptoRow.holds Tryd.pinned (OpenSpec.upto stockPlacesSpec)

/-- 'wapentakelaw13.TableBack', WHERE WHAT IT READS IS OF BULK AT MOST 1048576: true; the input reads as it did. -/
def tableBackUptoRow : OpenClaim := { program := "ytljpjckklkpipaadoor", sum := "caac2a830f4bb8172334c82bcf511ee7b93a49a04acc4057d5512656ff20d318", func := "wapentake/wapentakelaw13.TableBack", spec := "tableBack", inPlace := ["internal/bytealg.abigen_runtime_cmpstring", "internal/abi.NoEscape", "internal/bytealg.IndexByteString", "internal/bytealg.IndexString"], unfollowed := true, recurses := true, named := ["internal/strconv.uint64pow10", "math/bits.deBruijn32tab", "math/bits.deBruijn64tab", "internal/bytealg.MaxLen", "strconv.ErrSyntax", "strconv.ErrRange"], plainKeys := false, apart := false, laid := [("math/bits.deBruijn32tab", laid_math_bits_deBruijn32tab), ("math/bits.deBruijn64tab", laid_math_bits_deBruijn64tab), ("internal/strconv.uint64pow10", laid_internal_strconv_uint64pow10), ("strconv.ErrRange", laid_strconv_ErrRange), ("strconv.ErrSyntax", laid_strconv_ErrSyntax)], narrowed := true }
def TableBackUptoSaid : Prop := tableBackUptoRow.holds Tryd.pinned (OpenSpec.upto tableBackSpec)

/-- 'wapentakelaw13.TableLoads', WHERE WHAT IT READS IS OF BULK AT MOST 1048576: true; the input reads as it did. -/
def tableLoadsUptoRow : OpenClaim := { program := "ytljpjckklkpipaadoor", sum := "caac2a830f4bb8172334c82bcf511ee7b93a49a04acc4057d5512656ff20d318", func := "wapentake/wapentakelaw13.TableLoads", spec := "tableLoads", inPlace := ["internal/bytealg.abigen_runtime_cmpstring", "internal/abi.NoEscape", "internal/bytealg.IndexByteString", "internal/bytealg.IndexString"], unfollowed := true, recurses := true, named := ["internal/strconv.uint64pow10", "math/bits.deBruijn32tab", "math/bits.deBruijn64tab", "internal/bytealg.MaxLen", "strconv.ErrSyntax", "strconv.ErrRange"], plainKeys := false, apart := false, laid := [("math/bits.deBruijn32tab", laid_math_bits_deBruijn32tab), ("math/bits.deBruijn64tab", laid_math_bits_deBruijn64tab), ("internal/strconv.uint64pow10", laid_internal_strconv_uint64pow10), ("strconv.ErrRange", laid_strconv_ErrRange), ("strconv.ErrSyntax", laid_strconv_ErrSyntax)], narrowed := true }
def TableLoadsUptoSaid : Prop := tableLoadsUptoRow.holds Tryd.pinned (OpenSpec.upto tableLoadsSpec)

/-- 'wapentakelaw03.SealTags', WHERE WHAT IT READS IS OF BULK AT MOST 1048576: true; the input reads as it did. -/
def sealTagsUptoRow : OpenClaim := { program := "ytljpjckklkpipaadoor", sum := "caac2a830f4bb8172334c82bcf511ee7b93a49a04acc4057d5512656ff20d318", func := "wapentake/wapentakelaw03.SealTags", spec := "sealTags", inPlace := ["internal/abi.NoEscape"], named := ["internal/strconv.uint64pow10", "math/bits.deBruijn32tab", "math/bits.deBruijn64tab", "wapentake/blake.start", "wapentake/blake.rows"], plainKeys := false, apart := false, laid := [("math/bits.deBruijn32tab", laid_math_bits_deBruijn32tab), ("math/bits.deBruijn64tab", laid_math_bits_deBruijn64tab), ("internal/strconv.uint64pow10", laid_internal_strconv_uint64pow10), ("wapentake/blake.rows", laid_wapentake_blake_rows), ("wapentake/blake.start", laid_wapentake_blake_start)], narrowed := true }
def SealTagsUptoSaid : Prop := sealTagsUptoRow.holds Tryd.pinned (OpenSpec.upto sealTagsSpec)

/-- 'wapentakelaw03.SealNil', WHERE WHAT IT READS IS OF BULK AT MOST 1048576: true; the input reads as it did. -/
def sealNilUptoRow : OpenClaim := { program := "ytljpjckklkpipaadoor", sum := "caac2a830f4bb8172334c82bcf511ee7b93a49a04acc4057d5512656ff20d318", func := "wapentake/wapentakelaw03.SealNil", spec := "sealNil", inPlace := ["internal/abi.NoEscape"], named := ["internal/strconv.uint64pow10", "math/bits.deBruijn32tab", "math/bits.deBruijn64tab", "wapentake/blake.start", "wapentake/blake.rows"], plainKeys := false, apart := false, laid := [("math/bits.deBruijn32tab", laid_math_bits_deBruijn32tab), ("math/bits.deBruijn64tab", laid_math_bits_deBruijn64tab), ("internal/strconv.uint64pow10", laid_internal_strconv_uint64pow10), ("wapentake/blake.rows", laid_wapentake_blake_rows), ("wapentake/blake.start", laid_wapentake_blake_start)], narrowed := true }
def SealNilUptoSaid : Prop := sealNilUptoRow.holds Tryd.pinned (OpenSpec.upto sealNilSpec)

/-- 'wapentakelaw19.MemoBytes', WHERE WHAT IT READS IS OF BULK AT MOST 1048576: true; the input reads as it did. -/
def memoBytesUptoRow : OpenClaim := { program := "ytljpjckklkpipaadoor", sum := "caac2a830f4bb8172334c82bcf511ee7b93a49a04acc4057d5512656ff20d318", func := "wapentake/wapentakelaw19.MemoBytes", spec := "memoBytes", inPlace := ["internal/abi.NoEscape", "internal/bytealg.IndexByteString", "internal/bytealg.IndexString"], unfollowed := true, recurses := true, named := ["internal/strconv.uint64pow10", "math/bits.deBruijn32tab", "math/bits.deBruijn64tab", "internal/bytealg.MaxLen", "strconv.ErrSyntax", "strconv.ErrRange"], plainKeys := false, apart := false, laid := [("math/bits.deBruijn32tab", laid_math_bits_deBruijn32tab), ("math/bits.deBruijn64tab", laid_math_bits_deBruijn64tab), ("internal/strconv.uint64pow10", laid_internal_strconv_uint64pow10), ("strconv.ErrRange", laid_strconv_ErrRange), ("strconv.ErrSyntax", laid_strconv_ErrSyntax)], narrowed := true }
def MemoBytesUptoSaid : Prop := memoBytesUptoRow.holds Tryd.pinned (OpenSpec.upto memoBytesSpec)

/-- 'wapentakelaw03.SealNames', WHERE WHAT IT READS IS OF BULK AT MOST 1048576: true; the input reads as it did. -/
def sealNamesUptoRow : OpenClaim := { program := "ytljpjckklkpipaadoor", sum := "caac2a830f4bb8172334c82bcf511ee7b93a49a04acc4057d5512656ff20d318", func := "wapentake/wapentakelaw03.SealNames", spec := "sealNames", inPlace := ["internal/abi.NoEscape", "internal/bytealg.IndexByteString", "internal/bytealg.IndexString"], unfollowed := true, recurses := true, named := ["internal/strconv.uint64pow10", "math/bits.deBruijn32tab", "math/bits.deBruijn64tab", "internal/bytealg.MaxLen", "strconv.ErrSyntax", "strconv.ErrRange", "wapentake/blake.start", "wapentake/blake.rows"], plainKeys := false, apart := false, laid := [("math/bits.deBruijn32tab", laid_math_bits_deBruijn32tab), ("math/bits.deBruijn64tab", laid_math_bits_deBruijn64tab), ("internal/strconv.uint64pow10", laid_internal_strconv_uint64pow10), ("strconv.ErrRange", laid_strconv_ErrRange), ("strconv.ErrSyntax", laid_strconv_ErrSyntax), ("wapentake/blake.rows", laid_wapentake_blake_rows), ("wapentake/blake.start", laid_wapentake_blake_start)], narrowed := true }
def SealNamesUptoSaid : Prop := sealNamesUptoRow.holds Tryd.pinned (OpenSpec.upto sealNamesSpec)

/-- 'wapentakelaw19.MemoApart', WHERE WHAT IT READS IS OF BULK AT MOST 1048576: true; the input reads as it did. -/
def memoApartUptoRow : OpenClaim := { program := "ytljpjckklkpipaadoor", sum := "caac2a830f4bb8172334c82bcf511ee7b93a49a04acc4057d5512656ff20d318", func := "wapentake/wapentakelaw19.MemoApart", spec := "memoApart", inPlace := ["internal/abi.NoEscape", "internal/bytealg.IndexByteString", "internal/bytealg.IndexString"], unfollowed := true, recurses := true, named := ["internal/strconv.uint64pow10", "math/bits.deBruijn32tab", "math/bits.deBruijn64tab", "internal/bytealg.MaxLen", "strconv.ErrSyntax", "strconv.ErrRange"], plainKeys := false, apart := false, laid := [("math/bits.deBruijn32tab", laid_math_bits_deBruijn32tab), ("math/bits.deBruijn64tab", laid_math_bits_deBruijn64tab), ("internal/strconv.uint64pow10", laid_internal_strconv_uint64pow10), ("strconv.ErrRange", laid_strconv_ErrRange), ("strconv.ErrSyntax", laid_strconv_ErrSyntax)], narrowed := true }
def MemoApartUptoSaid : Prop := memoApartUptoRow.holds Tryd.pinned (OpenSpec.upto memoApartSpec)

/-- 'wapentakelaw03.SealBytes', WHERE WHAT IT READS IS OF BULK AT MOST 1048576: true; the input reads as it did. -/
def sealBytesUptoRow : OpenClaim := { program := "ytljpjckklkpipaadoor", sum := "caac2a830f4bb8172334c82bcf511ee7b93a49a04acc4057d5512656ff20d318", func := "wapentake/wapentakelaw03.SealBytes", spec := "sealBytes", inPlace := ["internal/abi.NoEscape", "internal/bytealg.IndexByteString", "internal/bytealg.IndexString"], unfollowed := true, recurses := true, named := ["internal/strconv.uint64pow10", "math/bits.deBruijn32tab", "math/bits.deBruijn64tab", "wapentake/blake.start", "wapentake/blake.rows", "internal/bytealg.MaxLen", "strconv.ErrSyntax", "strconv.ErrRange"], plainKeys := false, apart := false, laid := [("math/bits.deBruijn32tab", laid_math_bits_deBruijn32tab), ("math/bits.deBruijn64tab", laid_math_bits_deBruijn64tab), ("internal/strconv.uint64pow10", laid_internal_strconv_uint64pow10), ("strconv.ErrRange", laid_strconv_ErrRange), ("strconv.ErrSyntax", laid_strconv_ErrSyntax), ("wapentake/blake.rows", laid_wapentake_blake_rows), ("wapentake/blake.start", laid_wapentake_blake_start)], narrowed := true }
def SealBytesUptoSaid : Prop := sealBytesUptoRow.holds Tryd.pinned (OpenSpec.upto sealBytesSpec)

end Rows
end Go.Proofs.YtljpjckklkpipaaDoor
