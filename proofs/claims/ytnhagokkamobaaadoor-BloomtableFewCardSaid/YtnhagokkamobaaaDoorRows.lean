/-
  NARROWER THAN 'FOR EVERY INPUT', by the rows' own cells (each row's printed sentence says how): BloomtableSizes: laid · BloomtablePlaces: laid · BloomtableFew: laid · BloomtableKeys: laid · BloomtableGivesBack: laid · BloomtableOrder: laid · BloomtablePlays: laid · BloomtableSubtracts: laid · BloomtableDecodes: laid · BloomtableReads: laid.
  DERIVED. THE GIVEN ROWS OF THIS SEAT. 10 by the template 'for every input the law returns true; each argument reads behind the call as it read before'; 0 by the template 'total and deterministic' (their statements: YtnhagokkamobaaaDoorTotals.lean).
  GIVEN WITH THE SEED: the statements are not yours to turn. If you find one false, say at which input.
  Laid BY PROGRAM, IN A SANDBOX (cutbox-rows.mjs): the forced cells as the released guide's own fill.sh prints them over the translation efe673e3425c8ee0… (all of the seat's roots in one cut). By AI agents, Wed Nov 11 2026. No macro, syntax, notation, axiom, sorry.
-/
import Derived.Test.YtnhagokkamobaaaDoorChecked
import GoSem.Claim
import GoSem.ClaimJoined
import GoSem.ClaimMapViews
import Derived.JoinedTies
import Derived.KernelRfl
namespace Go.Proofs.YtnhagokkamobaaaDoor
/- THE CELL 'sum', in the pinned program and in every row, IS THE sha256 OF THE DUMP (.gsa) THAT YtnhagokkamobaaaDoorProg.lean LOADS. Nothing in Lean hashes anything: it is a label: what it is worth is what the hold of that sum in a sandbox is worth. -/
noncomputable def Tryd.pinned : Pinned := { name := "ytnhagokkamobaaadoor", sum := "efe673e3425c8ee08268088e253b87da7e530f55876643a29e42f40b1c571fb1", checked := Tryd.checked }
namespace Rows
def none {H : Type} : Left H := { results := [], args := [] }

/- WHAT THE LISTED PACKAGE-LEVEL VARIABLES READ AS WHEN THE CALL BEGINS. Each datum BY PROGRAM (the guide's laid-datum.mjs) off the statement by which the dump's own 'gosem.cut.vars' lays the variable. In a bare row this is a premise. The card (YtnhagokkamobaaaDoorCards.lean) ties it to the program's text. -/
def laid_kinkeep_sha256_initial {H : Type} : DataW H := .agg [.lit (.int .u32 1779033703), .lit (.int .u32 3144134277), .lit (.int .u32 1013904242), .lit (.int .u32 2773480762), .lit (.int .u32 1359893119), .lit (.int .u32 2600822924), .lit (.int .u32 528734635), .lit (.int .u32 1541459225)]
def laid_kinkeep_sha256_constants {H : Type} : DataW H := .agg [.lit (.int .u32 1116352408), .lit (.int .u32 1899447441), .lit (.int .u32 3049323471), .lit (.int .u32 3921009573), .lit (.int .u32 961987163), .lit (.int .u32 1508970993), .lit (.int .u32 2453635748), .lit (.int .u32 2870763221), .lit (.int .u32 3624381080), .lit (.int .u32 310598401), .lit (.int .u32 607225278), .lit (.int .u32 1426881987), .lit (.int .u32 1925078388), .lit (.int .u32 2162078206), .lit (.int .u32 2614888103), .lit (.int .u32 3248222580), .lit (.int .u32 3835390401), .lit (.int .u32 4022224774), .lit (.int .u32 264347078), .lit (.int .u32 604807628), .lit (.int .u32 770255983), .lit (.int .u32 1249150122), .lit (.int .u32 1555081692), .lit (.int .u32 1996064986), .lit (.int .u32 2554220882), .lit (.int .u32 2821834349), .lit (.int .u32 2952996808), .lit (.int .u32 3210313671), .lit (.int .u32 3336571891), .lit (.int .u32 3584528711), .lit (.int .u32 113926993), .lit (.int .u32 338241895), .lit (.int .u32 666307205), .lit (.int .u32 773529912), .lit (.int .u32 1294757372), .lit (.int .u32 1396182291), .lit (.int .u32 1695183700), .lit (.int .u32 1986661051), .lit (.int .u32 2177026350), .lit (.int .u32 2456956037), .lit (.int .u32 2730485921), .lit (.int .u32 2820302411), .lit (.int .u32 3259730800), .lit (.int .u32 3345764771), .lit (.int .u32 3516065817), .lit (.int .u32 3600352804), .lit (.int .u32 4094571909), .lit (.int .u32 275423344), .lit (.int .u32 430227734), .lit (.int .u32 506948616), .lit (.int .u32 659060556), .lit (.int .u32 883997877), .lit (.int .u32 958139571), .lit (.int .u32 1322822218), .lit (.int .u32 1537002063), .lit (.int .u32 1747873779), .lit (.int .u32 1955562222), .lit (.int .u32 2024104815), .lit (.int .u32 2227730452), .lit (.int .u32 2361852424), .lit (.int .u32 2428436474), .lit (.int .u32 2756734187), .lit (.int .u32 3204031479), .lit (.int .u32 3329325298)]

/-- 'kinkeeplaw39.BloomtableSizes': WHATEVER THE INPUT: true; the input reads as it did. -/
def bloomtableSizesSpec : ChangeSpec := { name := "bloomtableSizes", fn := fun _ => fun
  | [d] => { results := [.lit (.bool true)], args := [d] }
  | _ => none }
def bloomtableSizesRow : OpenClaim := { program := "ytnhagokkamobaaadoor", sum := "efe673e3425c8ee08268088e253b87da7e530f55876643a29e42f40b1c571fb1", func := "kinkeep/kinkeeplaw39.BloomtableSizes", spec := "bloomtableSizes", recurses := true, named := ["kinkeep/sha256.initial", "kinkeep/sha256.constants"], apart := false, laid := [("kinkeep/sha256.initial", laid_kinkeep_sha256_initial), ("kinkeep/sha256.constants", laid_kinkeep_sha256_constants)] }
def BloomtableSizesSaid : Prop := bloomtableSizesRow.holds Tryd.pinned (OpenSpec.ofChange bloomtableSizesSpec)

/-- ITS FALSE NEIGHBOUR: 'it returns false'. Refute it at one input. -/
def bloomtableSizesWrong : ChangeSpec := { name := "bloomtableSizes", fn := fun _ => fun
  | [d] => { results := [.lit (.bool false)], args := [d] }
  | _ => none }
def BloomtableSizesWrongFalsely : Prop := bloomtableSizesRow.holds Tryd.pinned (OpenSpec.ofChange bloomtableSizesWrong)

/-- 'kinkeeplaw39.BloomtablePlaces': WHATEVER THE INPUT: true; the input reads as it did. -/
def bloomtablePlacesSpec : ChangeSpec := { name := "bloomtablePlaces", fn := fun _ => fun
  | [d1, d2, d3] => { results := [.lit (.bool true)], args := [d1, d2, d3] }
  | _ => none }
def bloomtablePlacesRow : OpenClaim := { program := "ytnhagokkamobaaadoor", sum := "efe673e3425c8ee08268088e253b87da7e530f55876643a29e42f40b1c571fb1", func := "kinkeep/kinkeeplaw39.BloomtablePlaces", spec := "bloomtablePlaces", recurses := true, named := ["kinkeep/sha256.initial", "kinkeep/sha256.constants"], apart := false, laid := [("kinkeep/sha256.initial", laid_kinkeep_sha256_initial), ("kinkeep/sha256.constants", laid_kinkeep_sha256_constants)] }
def BloomtablePlacesSaid : Prop := bloomtablePlacesRow.holds Tryd.pinned (OpenSpec.ofChange bloomtablePlacesSpec)

/-- ITS FALSE NEIGHBOUR: 'it returns false'. Refute it at one input. -/
def bloomtablePlacesWrong : ChangeSpec := { name := "bloomtablePlaces", fn := fun _ => fun
  | [d1, d2, d3] => { results := [.lit (.bool false)], args := [d1, d2, d3] }
  | _ => none }
def BloomtablePlacesWrongFalsely : Prop := bloomtablePlacesRow.holds Tryd.pinned (OpenSpec.ofChange bloomtablePlacesWrong)

/-- 'kinkeeplaw39.BloomtableFew': WHATEVER THE INPUT: true; the input reads as it did. -/
def bloomtableFewSpec : ChangeSpec := { name := "bloomtableFew", fn := fun _ => fun
  | [d1, d2, d3, d4, d5, d6, d7] => { results := [.lit (.bool true)], args := [d1, d2, d3, d4, d5, d6, d7] }
  | _ => none }
def bloomtableFewRow : OpenClaim := { program := "ytnhagokkamobaaadoor", sum := "efe673e3425c8ee08268088e253b87da7e530f55876643a29e42f40b1c571fb1", func := "kinkeep/kinkeeplaw39.BloomtableFew", spec := "bloomtableFew", recurses := true, named := ["kinkeep/sha256.initial", "kinkeep/sha256.constants"], apart := false, laid := [("kinkeep/sha256.initial", laid_kinkeep_sha256_initial), ("kinkeep/sha256.constants", laid_kinkeep_sha256_constants)] }
def BloomtableFewSaid : Prop := bloomtableFewRow.holds Tryd.pinned (OpenSpec.ofChange bloomtableFewSpec)

/-- ITS FALSE NEIGHBOUR: 'it returns false'. Refute it at one input. -/
def bloomtableFewWrong : ChangeSpec := { name := "bloomtableFew", fn := fun _ => fun
  | [d1, d2, d3, d4, d5, d6, d7] => { results := [.lit (.bool false)], args := [d1, d2, d3, d4, d5, d6, d7] }
  | _ => none }
def BloomtableFewWrongFalsely : Prop := bloomtableFewRow.holds Tryd.pinned (OpenSpec.ofChange bloomtableFewWrong)

/-- 'kinkeeplaw39.BloomtableKeys': WHATEVER THE INPUT: true; the input reads as it did. -/
def bloomtableKeysSpec : ChangeSpec := { name := "bloomtableKeys", fn := fun _ => fun
  | [d1, d2, d3] => { results := [.lit (.bool true)], args := [d1, d2, d3] }
  | _ => none }
def bloomtableKeysRow : OpenClaim := { program := "ytnhagokkamobaaadoor", sum := "efe673e3425c8ee08268088e253b87da7e530f55876643a29e42f40b1c571fb1", func := "kinkeep/kinkeeplaw39.BloomtableKeys", spec := "bloomtableKeys", recurses := true, named := ["kinkeep/sha256.initial", "kinkeep/sha256.constants"], apart := false, laid := [("kinkeep/sha256.initial", laid_kinkeep_sha256_initial), ("kinkeep/sha256.constants", laid_kinkeep_sha256_constants)] }
def BloomtableKeysSaid : Prop := bloomtableKeysRow.holds Tryd.pinned (OpenSpec.ofChange bloomtableKeysSpec)

/-- ITS FALSE NEIGHBOUR: 'it returns false'. Refute it at one input. -/
def bloomtableKeysWrong : ChangeSpec := { name := "bloomtableKeys", fn := fun _ => fun
  | [d1, d2, d3] => { results := [.lit (.bool false)], args := [d1, d2, d3] }
  | _ => none }
def BloomtableKeysWrongFalsely : Prop := bloomtableKeysRow.holds Tryd.pinned (OpenSpec.ofChange bloomtableKeysWrong)

/-- 'kinkeeplaw39.BloomtableGivesBack': WHATEVER THE INPUT: true; the input reads as it did. -/
def bloomtableGivesBackSpec : ChangeSpec := { name := "bloomtableGivesBack", fn := fun _ => fun
  | [d1, d2, d3] => { results := [.lit (.bool true)], args := [d1, d2, d3] }
  | _ => none }
def bloomtableGivesBackRow : OpenClaim := { program := "ytnhagokkamobaaadoor", sum := "efe673e3425c8ee08268088e253b87da7e530f55876643a29e42f40b1c571fb1", func := "kinkeep/kinkeeplaw39.BloomtableGivesBack", spec := "bloomtableGivesBack", recurses := true, named := ["kinkeep/sha256.initial", "kinkeep/sha256.constants"], apart := false, laid := [("kinkeep/sha256.initial", laid_kinkeep_sha256_initial), ("kinkeep/sha256.constants", laid_kinkeep_sha256_constants)] }
def BloomtableGivesBackSaid : Prop := bloomtableGivesBackRow.holds Tryd.pinned (OpenSpec.ofChange bloomtableGivesBackSpec)

/-- ITS FALSE NEIGHBOUR: 'it returns false'. Refute it at one input. -/
def bloomtableGivesBackWrong : ChangeSpec := { name := "bloomtableGivesBack", fn := fun _ => fun
  | [d1, d2, d3] => { results := [.lit (.bool false)], args := [d1, d2, d3] }
  | _ => none }
def BloomtableGivesBackWrongFalsely : Prop := bloomtableGivesBackRow.holds Tryd.pinned (OpenSpec.ofChange bloomtableGivesBackWrong)

/-- 'kinkeeplaw39.BloomtableOrder': WHATEVER THE INPUT: true; the input reads as it did. -/
def bloomtableOrderSpec : ChangeSpec := { name := "bloomtableOrder", fn := fun _ => fun
  | [d1, d2, d3] => { results := [.lit (.bool true)], args := [d1, d2, d3] }
  | _ => none }
def bloomtableOrderRow : OpenClaim := { program := "ytnhagokkamobaaadoor", sum := "efe673e3425c8ee08268088e253b87da7e530f55876643a29e42f40b1c571fb1", func := "kinkeep/kinkeeplaw39.BloomtableOrder", spec := "bloomtableOrder", recurses := true, named := ["kinkeep/sha256.initial", "kinkeep/sha256.constants"], apart := false, laid := [("kinkeep/sha256.initial", laid_kinkeep_sha256_initial), ("kinkeep/sha256.constants", laid_kinkeep_sha256_constants)] }
def BloomtableOrderSaid : Prop := bloomtableOrderRow.holds Tryd.pinned (OpenSpec.ofChange bloomtableOrderSpec)

/-- ITS FALSE NEIGHBOUR: 'it returns false'. Refute it at one input. -/
def bloomtableOrderWrong : ChangeSpec := { name := "bloomtableOrder", fn := fun _ => fun
  | [d1, d2, d3] => { results := [.lit (.bool false)], args := [d1, d2, d3] }
  | _ => none }
def BloomtableOrderWrongFalsely : Prop := bloomtableOrderRow.holds Tryd.pinned (OpenSpec.ofChange bloomtableOrderWrong)

/-- 'kinkeeplaw39.BloomtablePlays': WHATEVER THE INPUT: true; the input reads as it did. -/
def bloomtablePlaysSpec : ChangeSpec := { name := "bloomtablePlays", fn := fun _ => fun
  | [d1, d2, d3] => { results := [.lit (.bool true)], args := [d1, d2, d3] }
  | _ => none }
def bloomtablePlaysRow : OpenClaim := { program := "ytnhagokkamobaaadoor", sum := "efe673e3425c8ee08268088e253b87da7e530f55876643a29e42f40b1c571fb1", func := "kinkeep/kinkeeplaw39.BloomtablePlays", spec := "bloomtablePlays", recurses := true, named := ["kinkeep/sha256.initial", "kinkeep/sha256.constants"], apart := false, laid := [("kinkeep/sha256.initial", laid_kinkeep_sha256_initial), ("kinkeep/sha256.constants", laid_kinkeep_sha256_constants)] }
def BloomtablePlaysSaid : Prop := bloomtablePlaysRow.holds Tryd.pinned (OpenSpec.ofChange bloomtablePlaysSpec)

/-- ITS FALSE NEIGHBOUR: 'it returns false'. Refute it at one input. -/
def bloomtablePlaysWrong : ChangeSpec := { name := "bloomtablePlays", fn := fun _ => fun
  | [d1, d2, d3] => { results := [.lit (.bool false)], args := [d1, d2, d3] }
  | _ => none }
def BloomtablePlaysWrongFalsely : Prop := bloomtablePlaysRow.holds Tryd.pinned (OpenSpec.ofChange bloomtablePlaysWrong)

/-- 'kinkeeplaw39.BloomtableSubtracts': WHATEVER THE INPUT: true; the input reads as it did. -/
def bloomtableSubtractsSpec : ChangeSpec := { name := "bloomtableSubtracts", fn := fun _ => fun
  | [d1, d2, d3, d4, d5, d6] => { results := [.lit (.bool true)], args := [d1, d2, d3, d4, d5, d6] }
  | _ => none }
def bloomtableSubtractsRow : OpenClaim := { program := "ytnhagokkamobaaadoor", sum := "efe673e3425c8ee08268088e253b87da7e530f55876643a29e42f40b1c571fb1", func := "kinkeep/kinkeeplaw39.BloomtableSubtracts", spec := "bloomtableSubtracts", recurses := true, named := ["kinkeep/sha256.initial", "kinkeep/sha256.constants"], apart := false, laid := [("kinkeep/sha256.initial", laid_kinkeep_sha256_initial), ("kinkeep/sha256.constants", laid_kinkeep_sha256_constants)] }
def BloomtableSubtractsSaid : Prop := bloomtableSubtractsRow.holds Tryd.pinned (OpenSpec.ofChange bloomtableSubtractsSpec)

/-- ITS FALSE NEIGHBOUR: 'it returns false'. Refute it at one input. -/
def bloomtableSubtractsWrong : ChangeSpec := { name := "bloomtableSubtracts", fn := fun _ => fun
  | [d1, d2, d3, d4, d5, d6] => { results := [.lit (.bool false)], args := [d1, d2, d3, d4, d5, d6] }
  | _ => none }
def BloomtableSubtractsWrongFalsely : Prop := bloomtableSubtractsRow.holds Tryd.pinned (OpenSpec.ofChange bloomtableSubtractsWrong)

/-- 'kinkeeplaw39.BloomtableDecodes': WHATEVER THE INPUT: true; the input reads as it did. -/
def bloomtableDecodesSpec : ChangeSpec := { name := "bloomtableDecodes", fn := fun _ => fun
  | [d] => { results := [.lit (.bool true)], args := [d] }
  | _ => none }
def bloomtableDecodesRow : OpenClaim := { program := "ytnhagokkamobaaadoor", sum := "efe673e3425c8ee08268088e253b87da7e530f55876643a29e42f40b1c571fb1", func := "kinkeep/kinkeeplaw39.BloomtableDecodes", spec := "bloomtableDecodes", unfollowed := true, recurses := true, named := ["kinkeep/sha256.initial", "kinkeep/sha256.constants"], apart := false, laid := [("kinkeep/sha256.initial", laid_kinkeep_sha256_initial), ("kinkeep/sha256.constants", laid_kinkeep_sha256_constants)] }
def BloomtableDecodesSaid : Prop := bloomtableDecodesRow.holds Tryd.pinned (OpenSpec.ofChange bloomtableDecodesSpec)

/-- ITS FALSE NEIGHBOUR: 'it returns false'. Refute it at one input. -/
def bloomtableDecodesWrong : ChangeSpec := { name := "bloomtableDecodes", fn := fun _ => fun
  | [d] => { results := [.lit (.bool false)], args := [d] }
  | _ => none }
def BloomtableDecodesWrongFalsely : Prop := bloomtableDecodesRow.holds Tryd.pinned (OpenSpec.ofChange bloomtableDecodesWrong)

/-- 'kinkeeplaw39.BloomtableReads': WHATEVER THE INPUT: true; the input reads as it did. -/
def bloomtableReadsSpec : ChangeSpec := { name := "bloomtableReads", fn := fun _ => fun
  | [d1, d2, d3, d4] => { results := [.lit (.bool true)], args := [d1, d2, d3, d4] }
  | _ => none }
def bloomtableReadsRow : OpenClaim := { program := "ytnhagokkamobaaadoor", sum := "efe673e3425c8ee08268088e253b87da7e530f55876643a29e42f40b1c571fb1", func := "kinkeep/kinkeeplaw39.BloomtableReads", spec := "bloomtableReads", unfollowed := true, recurses := true, named := ["kinkeep/sha256.initial", "kinkeep/sha256.constants"], apart := false, laid := [("kinkeep/sha256.initial", laid_kinkeep_sha256_initial), ("kinkeep/sha256.constants", laid_kinkeep_sha256_constants)] }
def BloomtableReadsSaid : Prop := bloomtableReadsRow.holds Tryd.pinned (OpenSpec.ofChange bloomtableReadsSpec)

/-- ITS FALSE NEIGHBOUR: 'it returns false'. Refute it at one input. -/
def bloomtableReadsWrong : ChangeSpec := { name := "bloomtableReads", fn := fun _ => fun
  | [d1, d2, d3, d4] => { results := [.lit (.bool false)], args := [d1, d2, d3, d4] }
  | _ => none }
def BloomtableReadsWrongFalsely : Prop := bloomtableReadsRow.holds Tryd.pinned (OpenSpec.ofChange bloomtableReadsWrong)

/- THE SECOND FORM. 'bulk': how many values and letters a reading holds, each counted each time it is reached (what is shared counts as often as it is met; a slice's spare places count too). A statement '..UptoSaid' is the law's where the arguments, and the package variables that the reading takes, are together of bulk at most 1048576: NARROWER than '..Said'. Prove '..Said' where nothing that the law and all that it calls make is longer than what came in: it says more and counts as full. Else prove '..UptoSaid'. A law counts once. -/
mutual
def uptoBulk {H : Type} : DataW H → Nat
  | .lit (.string bytes) => bytes.length + 1
  | .lit _ => 1
  | .nil => 1
  | .ptr d => uptoBulk d + 1
  | .slice elems spare => uptoBulkAll elems + uptoBulkAll spare + 1
  | .agg parts => uptoBulkAll parts + 1
  | .iface _ d => uptoBulk d + 1
  | .map entries => uptoBulkEntries entries + 1
  | .held _ => 1
def uptoBulkAll {H : Type} : List (DataW H) → Nat
  | [] => 0
  | d :: r => uptoBulk d + uptoBulkAll r
def uptoBulkEntries {H : Type} : List (Lit × DataW H) → Nat
  | [] => 0
  | x :: r => uptoBulkEntry x + uptoBulkEntries r
def uptoBulkEntry {H : Type} : Lit × DataW H → Nat
  | (.string bytes, d) => bytes.length + uptoBulk d + 1
  | (_, d) => uptoBulk d + 1
 end
def uptoSmall : (H : Type) → List (DataW H) → Bool := fun _ ds => decide (uptoBulkAll ds ≤ 1048576)
def OpenSpec.upto (s : _root_.Go.ChangeSpec) : _root_.Go.OpenSpec := { _root_.Go.OpenSpec.ofChange s with cond := some uptoSmall }

/-- 'kinkeeplaw39.BloomtableSizes', WHERE WHAT IT READS IS OF BULK AT MOST 1048576: true; the input reads as it did. -/
def bloomtableSizesUptoRow : OpenClaim := { program := "ytnhagokkamobaaadoor", sum := "efe673e3425c8ee08268088e253b87da7e530f55876643a29e42f40b1c571fb1", func := "kinkeep/kinkeeplaw39.BloomtableSizes", spec := "bloomtableSizes", recurses := true, named := ["kinkeep/sha256.initial", "kinkeep/sha256.constants"], apart := false, laid := [("kinkeep/sha256.initial", laid_kinkeep_sha256_initial), ("kinkeep/sha256.constants", laid_kinkeep_sha256_constants)], narrowed := true }
def BloomtableSizesUptoSaid : Prop := bloomtableSizesUptoRow.holds Tryd.pinned (OpenSpec.upto bloomtableSizesSpec)

/-- 'kinkeeplaw39.BloomtablePlaces', WHERE WHAT IT READS IS OF BULK AT MOST 1048576: true; the input reads as it did. -/
def bloomtablePlacesUptoRow : OpenClaim := { program := "ytnhagokkamobaaadoor", sum := "efe673e3425c8ee08268088e253b87da7e530f55876643a29e42f40b1c571fb1", func := "kinkeep/kinkeeplaw39.BloomtablePlaces", spec := "bloomtablePlaces", recurses := true, named := ["kinkeep/sha256.initial", "kinkeep/sha256.constants"], apart := false, laid := [("kinkeep/sha256.initial", laid_kinkeep_sha256_initial), ("kinkeep/sha256.constants", laid_kinkeep_sha256_constants)], narrowed := true }
def BloomtablePlacesUptoSaid : Prop := bloomtablePlacesUptoRow.holds Tryd.pinned (OpenSpec.upto bloomtablePlacesSpec)

/-- 'kinkeeplaw39.BloomtableFew', WHERE WHAT IT READS IS OF BULK AT MOST 1048576: true; the input reads as it did. -/
def bloomtableFewUptoRow : OpenClaim := { program := "ytnhagokkamobaaadoor", sum := "efe673e3425c8ee08268088e253b87da7e530f55876643a29e42f40b1c571fb1", func := "kinkeep/kinkeeplaw39.BloomtableFew", spec := "bloomtableFew", recurses := true, named := ["kinkeep/sha256.initial", "kinkeep/sha256.constants"], apart := false, laid := [("kinkeep/sha256.initial", laid_kinkeep_sha256_initial), ("kinkeep/sha256.constants", laid_kinkeep_sha256_constants)], narrowed := true }
def BloomtableFewUptoSaid : Prop := bloomtableFewUptoRow.holds Tryd.pinned (OpenSpec.upto bloomtableFewSpec)

/-- 'kinkeeplaw39.BloomtableKeys', WHERE WHAT IT READS IS OF BULK AT MOST 1048576: true; the input reads as it did. -/
def bloomtableKeysUptoRow : OpenClaim := { program := "ytnhagokkamobaaadoor", sum := "efe673e3425c8ee08268088e253b87da7e530f55876643a29e42f40b1c571fb1", func := "kinkeep/kinkeeplaw39.BloomtableKeys", spec := "bloomtableKeys", recurses := true, named := ["kinkeep/sha256.initial", "kinkeep/sha256.constants"], apart := false, laid := [("kinkeep/sha256.initial", laid_kinkeep_sha256_initial), ("kinkeep/sha256.constants", laid_kinkeep_sha256_constants)], narrowed := true }
def BloomtableKeysUptoSaid : Prop := bloomtableKeysUptoRow.holds Tryd.pinned (OpenSpec.upto bloomtableKeysSpec)

/-- 'kinkeeplaw39.BloomtableGivesBack', WHERE WHAT IT READS IS OF BULK AT MOST 1048576: true; the input reads as it did. -/
def bloomtableGivesBackUptoRow : OpenClaim := { program := "ytnhagokkamobaaadoor", sum := "efe673e3425c8ee08268088e253b87da7e530f55876643a29e42f40b1c571fb1", func := "kinkeep/kinkeeplaw39.BloomtableGivesBack", spec := "bloomtableGivesBack", recurses := true, named := ["kinkeep/sha256.initial", "kinkeep/sha256.constants"], apart := false, laid := [("kinkeep/sha256.initial", laid_kinkeep_sha256_initial), ("kinkeep/sha256.constants", laid_kinkeep_sha256_constants)], narrowed := true }
def BloomtableGivesBackUptoSaid : Prop := bloomtableGivesBackUptoRow.holds Tryd.pinned (OpenSpec.upto bloomtableGivesBackSpec)

/-- 'kinkeeplaw39.BloomtableOrder', WHERE WHAT IT READS IS OF BULK AT MOST 1048576: true; the input reads as it did. -/
def bloomtableOrderUptoRow : OpenClaim := { program := "ytnhagokkamobaaadoor", sum := "efe673e3425c8ee08268088e253b87da7e530f55876643a29e42f40b1c571fb1", func := "kinkeep/kinkeeplaw39.BloomtableOrder", spec := "bloomtableOrder", recurses := true, named := ["kinkeep/sha256.initial", "kinkeep/sha256.constants"], apart := false, laid := [("kinkeep/sha256.initial", laid_kinkeep_sha256_initial), ("kinkeep/sha256.constants", laid_kinkeep_sha256_constants)], narrowed := true }
def BloomtableOrderUptoSaid : Prop := bloomtableOrderUptoRow.holds Tryd.pinned (OpenSpec.upto bloomtableOrderSpec)

/-- 'kinkeeplaw39.BloomtablePlays', WHERE WHAT IT READS IS OF BULK AT MOST 1048576: true; the input reads as it did. -/
def bloomtablePlaysUptoRow : OpenClaim := { program := "ytnhagokkamobaaadoor", sum := "efe673e3425c8ee08268088e253b87da7e530f55876643a29e42f40b1c571fb1", func := "kinkeep/kinkeeplaw39.BloomtablePlays", spec := "bloomtablePlays", recurses := true, named := ["kinkeep/sha256.initial", "kinkeep/sha256.constants"], apart := false, laid := [("kinkeep/sha256.initial", laid_kinkeep_sha256_initial), ("kinkeep/sha256.constants", laid_kinkeep_sha256_constants)], narrowed := true }
def BloomtablePlaysUptoSaid : Prop := bloomtablePlaysUptoRow.holds Tryd.pinned (OpenSpec.upto bloomtablePlaysSpec)

/-- 'kinkeeplaw39.BloomtableSubtracts', WHERE WHAT IT READS IS OF BULK AT MOST 1048576: true; the input reads as it did. -/
def bloomtableSubtractsUptoRow : OpenClaim := { program := "ytnhagokkamobaaadoor", sum := "efe673e3425c8ee08268088e253b87da7e530f55876643a29e42f40b1c571fb1", func := "kinkeep/kinkeeplaw39.BloomtableSubtracts", spec := "bloomtableSubtracts", recurses := true, named := ["kinkeep/sha256.initial", "kinkeep/sha256.constants"], apart := false, laid := [("kinkeep/sha256.initial", laid_kinkeep_sha256_initial), ("kinkeep/sha256.constants", laid_kinkeep_sha256_constants)], narrowed := true }
def BloomtableSubtractsUptoSaid : Prop := bloomtableSubtractsUptoRow.holds Tryd.pinned (OpenSpec.upto bloomtableSubtractsSpec)

/-- 'kinkeeplaw39.BloomtableDecodes', WHERE WHAT IT READS IS OF BULK AT MOST 1048576: true; the input reads as it did. -/
def bloomtableDecodesUptoRow : OpenClaim := { program := "ytnhagokkamobaaadoor", sum := "efe673e3425c8ee08268088e253b87da7e530f55876643a29e42f40b1c571fb1", func := "kinkeep/kinkeeplaw39.BloomtableDecodes", spec := "bloomtableDecodes", unfollowed := true, recurses := true, named := ["kinkeep/sha256.initial", "kinkeep/sha256.constants"], apart := false, laid := [("kinkeep/sha256.initial", laid_kinkeep_sha256_initial), ("kinkeep/sha256.constants", laid_kinkeep_sha256_constants)], narrowed := true }
def BloomtableDecodesUptoSaid : Prop := bloomtableDecodesUptoRow.holds Tryd.pinned (OpenSpec.upto bloomtableDecodesSpec)

/-- 'kinkeeplaw39.BloomtableReads', WHERE WHAT IT READS IS OF BULK AT MOST 1048576: true; the input reads as it did. -/
def bloomtableReadsUptoRow : OpenClaim := { program := "ytnhagokkamobaaadoor", sum := "efe673e3425c8ee08268088e253b87da7e530f55876643a29e42f40b1c571fb1", func := "kinkeep/kinkeeplaw39.BloomtableReads", spec := "bloomtableReads", unfollowed := true, recurses := true, named := ["kinkeep/sha256.initial", "kinkeep/sha256.constants"], apart := false, laid := [("kinkeep/sha256.initial", laid_kinkeep_sha256_initial), ("kinkeep/sha256.constants", laid_kinkeep_sha256_constants)], narrowed := true }
def BloomtableReadsUptoSaid : Prop := bloomtableReadsUptoRow.holds Tryd.pinned (OpenSpec.upto bloomtableReadsSpec)

end Rows
end Go.Proofs.YtnhagokkamobaaaDoor
