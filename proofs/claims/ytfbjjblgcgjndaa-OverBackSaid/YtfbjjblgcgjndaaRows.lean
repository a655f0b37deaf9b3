/-
  No cell of these rows narrows 'for every input' (looked for: loops, veiled, ifaces, maps, wideKeys, modest, calm, conditions, laid).
  DERIVED. THE GIVEN ROWS OF THIS SEAT. 23 by the template 'for every input the law returns true; each argument reads behind the call as it read before'; 0 by the template 'total and deterministic' (their statements: YtfbjjblgcgjndaaTotals.lean).
  GIVEN WITH THE SEED: the statements are not yours to turn. If you find one false, say at which input.
  Laid BY PROGRAM, IN A SANDBOX (cutbox-rows.mjs): the forced cells as the released guide's own fill.sh prints them over the translation d8101b1b8949e4dc… (all of the seat's roots in one cut). By AI agents, Wed Nov 11 2026. No macro, syntax, notation, axiom, sorry.
-/
import Derived.Test.YtfbjjblgcgjndaaChecked
import GoSem.Claim
import GoSem.ClaimJoined
import GoSem.ClaimMapViews
import Derived.JoinedTies
import Derived.KernelRfl
namespace Go.Proofs.Ytfbjjblgcgjndaa
/- THE CELL 'sum', in the pinned program and in every row, IS THE sha256 OF THE DUMP (.gsa) THAT YtfbjjblgcgjndaaProg.lean LOADS. Nothing in Lean hashes anything: it is a label: what it is worth is what the hold of that sum in a sandbox is worth. -/
noncomputable def Try.pinned : Pinned := { name := "ytfbjjblgcgjndaa", sum := "d8101b1b8949e4dc569838e3c9579ae4968ded5cfeb0dd6bb43e8cba48765f13", checked := Try.checked }
namespace Rows
def none {H : Type} : Left H := { results := [], args := [] }

/-- 'codicillaw01.CrcSums': WHATEVER THE INPUT: true; the input reads as it did. -/
def crcSumsSpec : ChangeSpec := { name := "crcSums", fn := fun _ => fun
  | [d1, d2] => { results := [.lit (.bool true)], args := [d1, d2] }
  | _ => none }
def crcSumsRow : OpenClaim := { program := "ytfbjjblgcgjndaa", sum := "d8101b1b8949e4dc569838e3c9579ae4968ded5cfeb0dd6bb43e8cba48765f13", func := "codicil/codicillaw01.CrcSums", spec := "crcSums", apart := false }
def CrcSumsSaid : Prop := crcSumsRow.holds Try.pinned (OpenSpec.ofChange crcSumsSpec)

/-- ITS FALSE NEIGHBOUR: 'it returns false'. Refute it at one input. -/
def crcSumsWrong : ChangeSpec := { name := "crcSums", fn := fun _ => fun
  | [d1, d2] => { results := [.lit (.bool false)], args := [d1, d2] }
  | _ => none }
def CrcSumsWrongFalsely : Prop := crcSumsRow.holds Try.pinned (OpenSpec.ofChange crcSumsWrong)

/-- 'codicillaw01.CrcPieces': WHATEVER THE INPUT: true; the input reads as it did. -/
def crcPiecesSpec : ChangeSpec := { name := "crcPieces", fn := fun _ => fun
  | [d] => { results := [.lit (.bool true)], args := [d] }
  | _ => none }
def crcPiecesRow : OpenClaim := { program := "ytfbjjblgcgjndaa", sum := "d8101b1b8949e4dc569838e3c9579ae4968ded5cfeb0dd6bb43e8cba48765f13", func := "codicil/codicillaw01.CrcPieces", spec := "crcPieces", apart := false }
def CrcPiecesSaid : Prop := crcPiecesRow.holds Try.pinned (OpenSpec.ofChange crcPiecesSpec)

/-- ITS FALSE NEIGHBOUR: 'it returns false'. Refute it at one input. -/
def crcPiecesWrong : ChangeSpec := { name := "crcPieces", fn := fun _ => fun
  | [d] => { results := [.lit (.bool false)], args := [d] }
  | _ => none }
def CrcPiecesWrongFalsely : Prop := crcPiecesRow.holds Try.pinned (OpenSpec.ofChange crcPiecesWrong)

/-- 'codicillaw01.CrcLinear': WHATEVER THE INPUT: true; the input reads as it did. -/
def crcLinearSpec : ChangeSpec := { name := "crcLinear", fn := fun _ => fun
  | [d1, d2] => { results := [.lit (.bool true)], args := [d1, d2] }
  | _ => none }
def crcLinearRow : OpenClaim := { program := "ytfbjjblgcgjndaa", sum := "d8101b1b8949e4dc569838e3c9579ae4968ded5cfeb0dd6bb43e8cba48765f13", func := "codicil/codicillaw01.CrcLinear", spec := "crcLinear", apart := false }
def CrcLinearSaid : Prop := crcLinearRow.holds Try.pinned (OpenSpec.ofChange crcLinearSpec)

/-- ITS FALSE NEIGHBOUR: 'it returns false'. Refute it at one input. -/
def crcLinearWrong : ChangeSpec := { name := "crcLinear", fn := fun _ => fun
  | [d1, d2] => { results := [.lit (.bool false)], args := [d1, d2] }
  | _ => none }
def CrcLinearWrongFalsely : Prop := crcLinearRow.holds Try.pinned (OpenSpec.ofChange crcLinearWrong)

/-- 'codicillaw01.CrcBursts': WHATEVER THE INPUT: true; the input reads as it did. -/
def crcBurstsSpec : ChangeSpec := { name := "crcBursts", fn := fun _ => fun
  | [d1, d2, d3] => { results := [.lit (.bool true)], args := [d1, d2, d3] }
  | _ => none }
def crcBurstsRow : OpenClaim := { program := "ytfbjjblgcgjndaa", sum := "d8101b1b8949e4dc569838e3c9579ae4968ded5cfeb0dd6bb43e8cba48765f13", func := "codicil/codicillaw01.CrcBursts", spec := "crcBursts", apart := false }
def CrcBurstsSaid : Prop := crcBurstsRow.holds Try.pinned (OpenSpec.ofChange crcBurstsSpec)

/-- ITS FALSE NEIGHBOUR: 'it returns false'. Refute it at one input. -/
def crcBurstsWrong : ChangeSpec := { name := "crcBursts", fn := fun _ => fun
  | [d1, d2, d3] => { results := [.lit (.bool false)], args := [d1, d2, d3] }
  | _ => none }
def CrcBurstsWrongFalsely : Prop := crcBurstsRow.holds Try.pinned (OpenSpec.ofChange crcBurstsWrong)

/-- 'codicillaw12.OverWrites': WHATEVER THE INPUT: true; the input reads as it did. -/
def overWritesSpec : ChangeSpec := { name := "overWrites", fn := fun _ => fun
  | [d1, d2, d3] => { results := [.lit (.bool true)], args := [d1, d2, d3] }
  | _ => none }
def overWritesRow : OpenClaim := { program := "ytfbjjblgcgjndaa", sum := "d8101b1b8949e4dc569838e3c9579ae4968ded5cfeb0dd6bb43e8cba48765f13", func := "codicil/codicillaw12.OverWrites", spec := "overWrites", unfollowed := true, recurses := true, apart := false }
def OverWritesSaid : Prop := overWritesRow.holds Try.pinned (OpenSpec.ofChange overWritesSpec)

/-- ITS FALSE NEIGHBOUR: 'it returns false'. Refute it at one input. -/
def overWritesWrong : ChangeSpec := { name := "overWrites", fn := fun _ => fun
  | [d1, d2, d3] => { results := [.lit (.bool false)], args := [d1, d2, d3] }
  | _ => none }
def OverWritesWrongFalsely : Prop := overWritesRow.holds Try.pinned (OpenSpec.ofChange overWritesWrong)

/-- 'codicillaw12.OverParts': WHATEVER THE INPUT: true; the input reads as it did. -/
def overPartsSpec : ChangeSpec := { name := "overParts", fn := fun _ => fun
  | [d1, d2] => { results := [.lit (.bool true)], args := [d1, d2] }
  | _ => none }
def overPartsRow : OpenClaim := { program := "ytfbjjblgcgjndaa", sum := "d8101b1b8949e4dc569838e3c9579ae4968ded5cfeb0dd6bb43e8cba48765f13", func := "codicil/codicillaw12.OverParts", spec := "overParts", unfollowed := true, recurses := true, apart := false }
def OverPartsSaid : Prop := overPartsRow.holds Try.pinned (OpenSpec.ofChange overPartsSpec)

/-- ITS FALSE NEIGHBOUR: 'it returns false'. Refute it at one input. -/
def overPartsWrong : ChangeSpec := { name := "overParts", fn := fun _ => fun
  | [d1, d2] => { results := [.lit (.bool false)], args := [d1, d2] }
  | _ => none }
def OverPartsWrongFalsely : Prop := overPartsRow.holds Try.pinned (OpenSpec.ofChange overPartsWrong)

/-- 'codicillaw07.DiskTorn': WHATEVER THE INPUT: true; the input reads as it did. -/
def diskTornSpec : ChangeSpec := { name := "diskTorn", fn := fun _ => fun
  | [d1, d2, d3] => { results := [.lit (.bool true)], args := [d1, d2, d3] }
  | _ => none }
def diskTornRow : OpenClaim := { program := "ytfbjjblgcgjndaa", sum := "d8101b1b8949e4dc569838e3c9579ae4968ded5cfeb0dd6bb43e8cba48765f13", func := "codicil/codicillaw07.DiskTorn", spec := "diskTorn", unfollowed := true, recurses := true, apart := false }
def DiskTornSaid : Prop := diskTornRow.holds Try.pinned (OpenSpec.ofChange diskTornSpec)

/-- ITS FALSE NEIGHBOUR: 'it returns false'. Refute it at one input. -/
def diskTornWrong : ChangeSpec := { name := "diskTorn", fn := fun _ => fun
  | [d1, d2, d3] => { results := [.lit (.bool false)], args := [d1, d2, d3] }
  | _ => none }
def DiskTornWrongFalsely : Prop := diskTornRow.holds Try.pinned (OpenSpec.ofChange diskTornWrong)

/-- 'codicillaw07.DiskTrips': WHATEVER THE INPUT: true; the input reads as it did. -/
def diskTripsSpec : ChangeSpec := { name := "diskTrips", fn := fun _ => fun
  | [d1, d2, d3] => { results := [.lit (.bool true)], args := [d1, d2, d3] }
  | _ => none }
def diskTripsRow : OpenClaim := { program := "ytfbjjblgcgjndaa", sum := "d8101b1b8949e4dc569838e3c9579ae4968ded5cfeb0dd6bb43e8cba48765f13", func := "codicil/codicillaw07.DiskTrips", spec := "diskTrips", unfollowed := true, recurses := true, apart := false }
def DiskTripsSaid : Prop := diskTripsRow.holds Try.pinned (OpenSpec.ofChange diskTripsSpec)

/-- ITS FALSE NEIGHBOUR: 'it returns false'. Refute it at one input. -/
def diskTripsWrong : ChangeSpec := { name := "diskTrips", fn := fun _ => fun
  | [d1, d2, d3] => { results := [.lit (.bool false)], args := [d1, d2, d3] }
  | _ => none }
def DiskTripsWrongFalsely : Prop := diskTripsRow.holds Try.pinned (OpenSpec.ofChange diskTripsWrong)

/-- 'codicillaw07.DiskKeeps': WHATEVER THE INPUT: true; the input reads as it did. -/
def diskKeepsSpec : ChangeSpec := { name := "diskKeeps", fn := fun _ => fun
  | [d1, d2, d3, d4] => { results := [.lit (.bool true)], args := [d1, d2, d3, d4] }
  | _ => none }
def diskKeepsRow : OpenClaim := { program := "ytfbjjblgcgjndaa", sum := "d8101b1b8949e4dc569838e3c9579ae4968ded5cfeb0dd6bb43e8cba48765f13", func := "codicil/codicillaw07.DiskKeeps", spec := "diskKeeps", unfollowed := true, recurses := true, apart := false }
def DiskKeepsSaid : Prop := diskKeepsRow.holds Try.pinned (OpenSpec.ofChange diskKeepsSpec)

/-- ITS FALSE NEIGHBOUR: 'it returns false'. Refute it at one input. -/
def diskKeepsWrong : ChangeSpec := { name := "diskKeeps", fn := fun _ => fun
  | [d1, d2, d3, d4] => { results := [.lit (.bool false)], args := [d1, d2, d3, d4] }
  | _ => none }
def DiskKeepsWrongFalsely : Prop := diskKeepsRow.holds Try.pinned (OpenSpec.ofChange diskKeepsWrong)

/-- 'codicillaw07.DiskFails': WHATEVER THE INPUT: true; the input reads as it did. -/
def diskFailsSpec : ChangeSpec := { name := "diskFails", fn := fun _ => fun
  | [d1, d2, d3] => { results := [.lit (.bool true)], args := [d1, d2, d3] }
  | _ => none }
def diskFailsRow : OpenClaim := { program := "ytfbjjblgcgjndaa", sum := "d8101b1b8949e4dc569838e3c9579ae4968ded5cfeb0dd6bb43e8cba48765f13", func := "codicil/codicillaw07.DiskFails", spec := "diskFails", unfollowed := true, recurses := true, apart := false }
def DiskFailsSaid : Prop := diskFailsRow.holds Try.pinned (OpenSpec.ofChange diskFailsSpec)

/-- ITS FALSE NEIGHBOUR: 'it returns false'. Refute it at one input. -/
def diskFailsWrong : ChangeSpec := { name := "diskFails", fn := fun _ => fun
  | [d1, d2, d3] => { results := [.lit (.bool false)], args := [d1, d2, d3] }
  | _ => none }
def DiskFailsWrongFalsely : Prop := diskFailsRow.holds Try.pinned (OpenSpec.ofChange diskFailsWrong)

/-- 'codicillaw07.DiskDoes': WHATEVER THE INPUT: true; the input reads as it did. -/
def diskDoesSpec : ChangeSpec := { name := "diskDoes", fn := fun _ => fun
  | [d1, d2] => { results := [.lit (.bool true)], args := [d1, d2] }
  | _ => none }
def diskDoesRow : OpenClaim := { program := "ytfbjjblgcgjndaa", sum := "d8101b1b8949e4dc569838e3c9579ae4968ded5cfeb0dd6bb43e8cba48765f13", func := "codicil/codicillaw07.DiskDoes", spec := "diskDoes", unfollowed := true, recurses := true, apart := false }
def DiskDoesSaid : Prop := diskDoesRow.holds Try.pinned (OpenSpec.ofChange diskDoesSpec)

/-- ITS FALSE NEIGHBOUR: 'it returns false'. Refute it at one input. -/
def diskDoesWrong : ChangeSpec := { name := "diskDoes", fn := fun _ => fun
  | [d1, d2] => { results := [.lit (.bool false)], args := [d1, d2] }
  | _ => none }
def DiskDoesWrongFalsely : Prop := diskDoesRow.holds Try.pinned (OpenSpec.ofChange diskDoesWrong)

/-- 'codicillaw07.DiskLoads': WHATEVER THE INPUT: true; the input reads as it did. -/
def diskLoadsSpec : ChangeSpec := { name := "diskLoads", fn := fun _ => fun
  | [d1, d2] => { results := [.lit (.bool true)], args := [d1, d2] }
  | _ => none }
def diskLoadsRow : OpenClaim := { program := "ytfbjjblgcgjndaa", sum := "d8101b1b8949e4dc569838e3c9579ae4968ded5cfeb0dd6bb43e8cba48765f13", func := "codicil/codicillaw07.DiskLoads", spec := "diskLoads", unfollowed := true, recurses := true, apart := false }
def DiskLoadsSaid : Prop := diskLoadsRow.holds Try.pinned (OpenSpec.ofChange diskLoadsSpec)

/-- ITS FALSE NEIGHBOUR: 'it returns false'. Refute it at one input. -/
def diskLoadsWrong : ChangeSpec := { name := "diskLoads", fn := fun _ => fun
  | [d1, d2] => { results := [.lit (.bool false)], args := [d1, d2] }
  | _ => none }
def DiskLoadsWrongFalsely : Prop := diskLoadsRow.holds Try.pinned (OpenSpec.ofChange diskLoadsWrong)

/-- 'codicillaw07.DiskAlone': WHATEVER THE INPUT: true; the input reads as it did. -/
def diskAloneSpec : ChangeSpec := { name := "diskAlone", fn := fun _ => fun
  | [d1, d2] => { results := [.lit (.bool true)], args := [d1, d2] }
  | _ => none }
def diskAloneRow : OpenClaim := { program := "ytfbjjblgcgjndaa", sum := "d8101b1b8949e4dc569838e3c9579ae4968ded5cfeb0dd6bb43e8cba48765f13", func := "codicil/codicillaw07.DiskAlone", spec := "diskAlone", unfollowed := true, recurses := true, apart := false }
def DiskAloneSaid : Prop := diskAloneRow.holds Try.pinned (OpenSpec.ofChange diskAloneSpec)

/-- ITS FALSE NEIGHBOUR: 'it returns false'. Refute it at one input. -/
def diskAloneWrong : ChangeSpec := { name := "diskAlone", fn := fun _ => fun
  | [d1, d2] => { results := [.lit (.bool false)], args := [d1, d2] }
  | _ => none }
def DiskAloneWrongFalsely : Prop := diskAloneRow.holds Try.pinned (OpenSpec.ofChange diskAloneWrong)

/-- 'codicillaw08.PageSeals': WHATEVER THE INPUT: true; the input reads as it did. -/
def pageSealsSpec : ChangeSpec := { name := "pageSeals", fn := fun _ => fun
  | [d1, d2, d3] => { results := [.lit (.bool true)], args := [d1, d2, d3] }
  | _ => none }
def pageSealsRow : OpenClaim := { program := "ytfbjjblgcgjndaa", sum := "d8101b1b8949e4dc569838e3c9579ae4968ded5cfeb0dd6bb43e8cba48765f13", func := "codicil/codicillaw08.PageSeals", spec := "pageSeals", unfollowed := true, recurses := true, apart := false }
def PageSealsSaid : Prop := pageSealsRow.holds Try.pinned (OpenSpec.ofChange pageSealsSpec)

/-- ITS FALSE NEIGHBOUR: 'it returns false'. Refute it at one input. -/
def pageSealsWrong : ChangeSpec := { name := "pageSeals", fn := fun _ => fun
  | [d1, d2, d3] => { results := [.lit (.bool false)], args := [d1, d2, d3] }
  | _ => none }
def PageSealsWrongFalsely : Prop := pageSealsRow.holds Try.pinned (OpenSpec.ofChange pageSealsWrong)

/-- 'codicillaw08.PageOpens': WHATEVER THE INPUT: true; the input reads as it did. -/
def pageOpensSpec : ChangeSpec := { name := "pageOpens", fn := fun _ => fun
  | [d1, d2] => { results := [.lit (.bool true)], args := [d1, d2] }
  | _ => none }
def pageOpensRow : OpenClaim := { program := "ytfbjjblgcgjndaa", sum := "d8101b1b8949e4dc569838e3c9579ae4968ded5cfeb0dd6bb43e8cba48765f13", func := "codicil/codicillaw08.PageOpens", spec := "pageOpens", unfollowed := true, recurses := true, apart := false }
def PageOpensSaid : Prop := pageOpensRow.holds Try.pinned (OpenSpec.ofChange pageOpensSpec)

/-- ITS FALSE NEIGHBOUR: 'it returns false'. Refute it at one input. -/
def pageOpensWrong : ChangeSpec := { name := "pageOpens", fn := fun _ => fun
  | [d1, d2] => { results := [.lit (.bool false)], args := [d1, d2] }
  | _ => none }
def PageOpensWrongFalsely : Prop := pageOpensRow.holds Try.pinned (OpenSpec.ofChange pageOpensWrong)

/-- 'codicillaw08.PageStates': WHATEVER THE INPUT: true; the input reads as it did. -/
def pageStatesSpec : ChangeSpec := { name := "pageStates", fn := fun _ => fun
  | [d1, d2, d3] => { results := [.lit (.bool true)], args := [d1, d2, d3] }
  | _ => none }
def pageStatesRow : OpenClaim := { program := "ytfbjjblgcgjndaa", sum := "d8101b1b8949e4dc569838e3c9579ae4968ded5cfeb0dd6bb43e8cba48765f13", func := "codicil/codicillaw08.PageStates", spec := "pageStates", unfollowed := true, recurses := true, apart := false }
def PageStatesSaid : Prop := pageStatesRow.holds Try.pinned (OpenSpec.ofChange pageStatesSpec)

/-- ITS FALSE NEIGHBOUR: 'it returns false'. Refute it at one input. -/
def pageStatesWrong : ChangeSpec := { name := "pageStates", fn := fun _ => fun
  | [d1, d2, d3] => { results := [.lit (.bool false)], args := [d1, d2, d3] }
  | _ => none }
def PageStatesWrongFalsely : Prop := pageStatesRow.holds Try.pinned (OpenSpec.ofChange pageStatesWrong)

/-- 'codicillaw08.PageTurned': WHATEVER THE INPUT: true; the input reads as it did. -/
def pageTurnedSpec : ChangeSpec := { name := "pageTurned", fn := fun _ => fun
  | [d1, d2, d3, d4, d5, d6, d7] => { results := [.lit (.bool true)], args := [d1, d2, d3, d4, d5, d6, d7] }
  | _ => none }
def pageTurnedRow : OpenClaim := { program := "ytfbjjblgcgjndaa", sum := "d8101b1b8949e4dc569838e3c9579ae4968ded5cfeb0dd6bb43e8cba48765f13", func := "codicil/codicillaw08.PageTurned", spec := "pageTurned", unfollowed := true, recurses := true, apart := false }
def PageTurnedSaid : Prop := pageTurnedRow.holds Try.pinned (OpenSpec.ofChange pageTurnedSpec)

/-- ITS FALSE NEIGHBOUR: 'it returns false'. Refute it at one input. -/
def pageTurnedWrong : ChangeSpec := { name := "pageTurned", fn := fun _ => fun
  | [d1, d2, d3, d4, d5, d6, d7] => { results := [.lit (.bool false)], args := [d1, d2, d3, d4, d5, d6, d7] }
  | _ => none }
def PageTurnedWrongFalsely : Prop := pageTurnedRow.holds Try.pinned (OpenSpec.ofChange pageTurnedWrong)

/-- 'codicillaw08.PageNewest': WHATEVER THE INPUT: true; the input reads as it did. -/
def pageNewestSpec : ChangeSpec := { name := "pageNewest", fn := fun _ => fun
  | [d1, d2, d3, d4, d5] => { results := [.lit (.bool true)], args := [d1, d2, d3, d4, d5] }
  | _ => none }
def pageNewestRow : OpenClaim := { program := "ytfbjjblgcgjndaa", sum := "d8101b1b8949e4dc569838e3c9579ae4968ded5cfeb0dd6bb43e8cba48765f13", func := "codicil/codicillaw08.PageNewest", spec := "pageNewest", unfollowed := true, recurses := true, apart := false }
def PageNewestSaid : Prop := pageNewestRow.holds Try.pinned (OpenSpec.ofChange pageNewestSpec)

/-- ITS FALSE NEIGHBOUR: 'it returns false'. Refute it at one input. -/
def pageNewestWrong : ChangeSpec := { name := "pageNewest", fn := fun _ => fun
  | [d1, d2, d3, d4, d5] => { results := [.lit (.bool false)], args := [d1, d2, d3, d4, d5] }
  | _ => none }
def PageNewestWrongFalsely : Prop := pageNewestRow.holds Try.pinned (OpenSpec.ofChange pageNewestWrong)

/-- 'codicillaw08.PageNumbers': WHATEVER THE INPUT: true; the input reads as it did. -/
def pageNumbersSpec : ChangeSpec := { name := "pageNumbers", fn := fun _ => fun
  | [d1, d2, d3, d4, d5, d6] => { results := [.lit (.bool true)], args := [d1, d2, d3, d4, d5, d6] }
  | _ => none }
def pageNumbersRow : OpenClaim := { program := "ytfbjjblgcgjndaa", sum := "d8101b1b8949e4dc569838e3c9579ae4968ded5cfeb0dd6bb43e8cba48765f13", func := "codicil/codicillaw08.PageNumbers", spec := "pageNumbers", unfollowed := true, recurses := true, apart := false }
def PageNumbersSaid : Prop := pageNumbersRow.holds Try.pinned (OpenSpec.ofChange pageNumbersSpec)

/-- ITS FALSE NEIGHBOUR: 'it returns false'. Refute it at one input. -/
def pageNumbersWrong : ChangeSpec := { name := "pageNumbers", fn := fun _ => fun
  | [d1, d2, d3, d4, d5, d6] => { results := [.lit (.bool false)], args := [d1, d2, d3, d4, d5, d6] }
  | _ => none }
def PageNumbersWrongFalsely : Prop := pageNumbersRow.holds Try.pinned (OpenSpec.ofChange pageNumbersWrong)

/-- 'codicillaw10.PoolKeeps': WHATEVER THE INPUT: true; the input reads as it did. -/
def poolKeepsSpec : ChangeSpec := { name := "poolKeeps", fn := fun _ => fun
  | [d1, d2] => { results := [.lit (.bool true)], args := [d1, d2] }
  | _ => none }
def poolKeepsRow : OpenClaim := { program := "ytfbjjblgcgjndaa", sum := "d8101b1b8949e4dc569838e3c9579ae4968ded5cfeb0dd6bb43e8cba48765f13", func := "codicil/codicillaw10.PoolKeeps", spec := "poolKeeps", unfollowed := true, recurses := true, apart := false }
def PoolKeepsSaid : Prop := poolKeepsRow.holds Try.pinned (OpenSpec.ofChange poolKeepsSpec)

/-- ITS FALSE NEIGHBOUR: 'it returns false'. Refute it at one input. -/
def poolKeepsWrong : ChangeSpec := { name := "poolKeeps", fn := fun _ => fun
  | [d1, d2] => { results := [.lit (.bool false)], args := [d1, d2] }
  | _ => none }
def PoolKeepsWrongFalsely : Prop := poolKeepsRow.holds Try.pinned (OpenSpec.ofChange poolKeepsWrong)

/-- 'codicillaw10.PoolSizes': WHATEVER THE INPUT: true; the input reads as it did. -/
def poolSizesSpec : ChangeSpec := { name := "poolSizes", fn := fun _ => fun
  | [d1, d2, d3, d4] => { results := [.lit (.bool true)], args := [d1, d2, d3, d4] }
  | _ => none }
def poolSizesRow : OpenClaim := { program := "ytfbjjblgcgjndaa", sum := "d8101b1b8949e4dc569838e3c9579ae4968ded5cfeb0dd6bb43e8cba48765f13", func := "codicil/codicillaw10.PoolSizes", spec := "poolSizes", unfollowed := true, recurses := true, apart := false }
def PoolSizesSaid : Prop := poolSizesRow.holds Try.pinned (OpenSpec.ofChange poolSizesSpec)

/-- ITS FALSE NEIGHBOUR: 'it returns false'. Refute it at one input. -/
def poolSizesWrong : ChangeSpec := { name := "poolSizes", fn := fun _ => fun
  | [d1, d2, d3, d4] => { results := [.lit (.bool false)], args := [d1, d2, d3, d4] }
  | _ => none }
def PoolSizesWrongFalsely : Prop := poolSizesRow.holds Try.pinned (OpenSpec.ofChange poolSizesWrong)

/-- 'codicillaw10.PoolLast': WHATEVER THE INPUT: true; the input reads as it did. -/
def poolLastSpec : ChangeSpec := { name := "poolLast", fn := fun _ => fun
  | [d1, d2] => { results := [.lit (.bool true)], args := [d1, d2] }
  | _ => none }
def poolLastRow : OpenClaim := { program := "ytfbjjblgcgjndaa", sum := "d8101b1b8949e4dc569838e3c9579ae4968ded5cfeb0dd6bb43e8cba48765f13", func := "codicil/codicillaw10.PoolLast", spec := "poolLast", unfollowed := true, recurses := true, apart := false }
def PoolLastSaid : Prop := poolLastRow.holds Try.pinned (OpenSpec.ofChange poolLastSpec)

/-- ITS FALSE NEIGHBOUR: 'it returns false'. Refute it at one input. -/
def poolLastWrong : ChangeSpec := { name := "poolLast", fn := fun _ => fun
  | [d1, d2] => { results := [.lit (.bool false)], args := [d1, d2] }
  | _ => none }
def PoolLastWrongFalsely : Prop := poolLastRow.holds Try.pinned (OpenSpec.ofChange poolLastWrong)

/-- 'codicillaw12.OverBack': WHATEVER THE INPUT: true; the input reads as it did. -/
def overBackSpec : ChangeSpec := { name := "overBack", fn := fun _ => fun
  | [d1, d2, d3] => { results := [.lit (.bool true)], args := [d1, d2, d3] }
  | _ => none }
def overBackRow : OpenClaim := { program := "ytfbjjblgcgjndaa", sum := "d8101b1b8949e4dc569838e3c9579ae4968ded5cfeb0dd6bb43e8cba48765f13", func := "codicil/codicillaw12.OverBack", spec := "overBack", unfollowed := true, recurses := true, apart := false }
def OverBackSaid : Prop := overBackRow.holds Try.pinned (OpenSpec.ofChange overBackSpec)

/-- ITS FALSE NEIGHBOUR: 'it returns false'. Refute it at one input. -/
def overBackWrong : ChangeSpec := { name := "overBack", fn := fun _ => fun
  | [d1, d2, d3] => { results := [.lit (.bool false)], args := [d1, d2, d3] }
  | _ => none }
def OverBackWrongFalsely : Prop := overBackRow.holds Try.pinned (OpenSpec.ofChange overBackWrong)

/- THE SECOND FORM. 'bulk': how many values and letters a reading holds, each counted each time it is reached (what is shared counts as often as it is met; a slice's spare places count too). A statement '..UptoSaid' is the law's where the arguments, and the package variables that the reading takes, are together of bulk at most 1048576: NARROWER than '..Said'. Prove '..Said' where nothing that the law and all that it calls make is longer than what came in: it says more and counts as full. Else prove '..UptoSaid'. A law counts once. -/
mutual
def uptoBulk {H : Type} : DataW H → Nat
  | .lit (.string bytes) => bytes.length + 1
  | .lit _ => 1
  | .nil => 1
  | .ptr d => uptoBulk d + 1
  | .slice elems spare => uptoBulkAll elems + uptoBulkAll spare + 1
  | .agg parts => uptoBulkAll parts + 1
  | .iface _ d => uptoBulk d + 1
  | .map entries => uptoBulkEntries entries + 1
  | .held _ => 1
def uptoBulkAll {H : Type} : List (DataW H) → Nat
  | [] => 0
  | d :: r => uptoBulk d + uptoBulkAll r
def uptoBulkEntries {H : Type} : List (Lit × DataW H) → Nat
  | [] => 0
  | x :: r => uptoBulkEntry x + uptoBulkEntries r
def uptoBulkEntry {H : Type} : Lit × DataW H → Nat
  | (.string bytes, d) => bytes.length + uptoBulk d + 1
  | (_, d) => uptoBulk d + 1
 end
def uptoSmall : (H : Type) → List (DataW H) → Bool := fun _ ds => decide (uptoBulkAll ds ≤ 1048576)
def OpenSpec.upto (s : _root_.Go.ChangeSpec) : _root_.Go.OpenSpec := { _root_.Go.OpenSpec.ofChange s with cond := some uptoSmall }

/-- 'codicillaw01.CrcSums', WHERE WHAT IT READS IS OF BULK AT MOST 1048576: true; the input reads as it did. -/
def crcSumsUptoRow : OpenClaim := { program := "ytfbjjblgcgjndaa", sum := "d8101b1b8949e4dc569838e3c9579ae4968ded5cfeb0dd6bb43e8cba48765f13", func := "codicil/codicillaw01.CrcSums", spec := "crcSums", apart := false, narrowed := true }
def CrcSumsUptoSaid : Prop := crcSumsUptoRow.holds Try.pinned (OpenSpec.upto crcSumsSpec)

/-- 'codicillaw01.CrcPieces', WHERE WHAT IT READS IS OF BULK AT MOST 1048576: true; the input reads as it did. -/
def crcPiecesUptoRow : OpenClaim := { program := "ytfbjjblgcgjndaa", sum := "d8101b1b8949e4dc569838e3c9579ae4968ded5cfeb0dd6bb43e8cba48765f13", func := "codicil/codicillaw01.CrcPieces", spec := "crcPieces", apart := false, narrowed := true }
def CrcPiecesUptoSaid : Prop := crcPiecesUptoRow.holds Try.pinned (OpenSpec.upto crcPiecesSpec)

/-- 'codicillaw01.CrcLinear', WHERE WHAT IT READS IS OF BULK AT MOST 1048576: true; the input reads as it did. -/
def crcLinearUptoRow : OpenClaim := { program := "ytfbjjblgcgjndaa", sum := "d8101b1b8949e4dc569838e3c9579ae4968ded5cfeb0dd6bb43e8cba48765f13", func := "codicil/codicillaw01.CrcLinear", spec := "crcLinear", apart := false, narrowed := true }
def CrcLinearUptoSaid : Prop := crcLinearUptoRow.holds Try.pinned (OpenSpec.upto crcLinearSpec)

/-- 'codicillaw01.CrcBursts', WHERE WHAT IT READS IS OF BULK AT MOST 1048576: true; the input reads as it did. -/
def crcBurstsUptoRow : OpenClaim := { program := "ytfbjjblgcgjndaa", sum := "d8101b1b8949e4dc569838e3c9579ae4968ded5cfeb0dd6bb43e8cba48765f13", func := "codicil/codicillaw01.CrcBursts", spec := "crcBursts", apart := false, narrowed := true }
def CrcBurstsUptoSaid : Prop := crcBurstsUptoRow.holds Try.pinned (OpenSpec.upto crcBurstsSpec)

/-- 'codicillaw12.OverWrites', WHERE WHAT IT READS IS OF BULK AT MOST 1048576: true; the input reads as it did. -/
def overWritesUptoRow : OpenClaim := { program := "ytfbjjblgcgjndaa", sum := "d8101b1b8949e4dc569838e3c9579ae4968ded5cfeb0dd6bb43e8cba48765f13", func := "codicil/codicillaw12.OverWrites", spec := "overWrites", unfollowed := true, recurses := true, apart := false, narrowed := true }
def OverWritesUptoSaid : Prop := overWritesUptoRow.holds Try.pinned (OpenSpec.upto overWritesSpec)

/-- 'codicillaw12.OverParts', WHERE WHAT IT READS IS OF BULK AT MOST 1048576: true; the input reads as it did. -/
def overPartsUptoRow : OpenClaim := { program := "ytfbjjblgcgjndaa", sum := "d8101b1b8949e4dc569838e3c9579ae4968ded5cfeb0dd6bb43e8cba48765f13", func := "codicil/codicillaw12.OverParts", spec := "overParts", unfollowed := true, recurses := true, apart := false, narrowed := true }
def OverPartsUptoSaid : Prop := overPartsUptoRow.holds Try.pinned (OpenSpec.upto overPartsSpec)

/-- 'codicillaw07.DiskTorn', WHERE WHAT IT READS IS OF BULK AT MOST 1048576: true; the input reads as it did. -/
def diskTornUptoRow : OpenClaim := { program := "ytfbjjblgcgjndaa", sum := "d8101b1b8949e4dc569838e3c9579ae4968ded5cfeb0dd6bb43e8cba48765f13", func := "codicil/codicillaw07.DiskTorn", spec := "diskTorn", unfollowed := true, recurses := true, apart := false, narrowed := true }
def DiskTornUptoSaid : Prop := diskTornUptoRow.holds Try.pinned (OpenSpec.upto diskTornSpec)

/-- 'codicillaw07.DiskTrips', WHERE WHAT IT READS IS OF BULK AT MOST 1048576: true; the input reads as it did. -/
def diskTripsUptoRow : OpenClaim := { program := "ytfbjjblgcgjndaa", sum := "d8101b1b8949e4dc569838e3c9579ae4968ded5cfeb0dd6bb43e8cba48765f13", func := "codicil/codicillaw07.DiskTrips", spec := "diskTrips", unfollowed := true, recurses := true, apart := false, narrowed := true }
def DiskTripsUptoSaid : Prop := diskTripsUptoRow.holds Try.pinned (OpenSpec.upto diskTripsSpec)

/-- 'codicillaw07.DiskKeeps', WHERE WHAT IT READS IS OF BULK AT MOST 1048576: true; the input reads as it did. -/
def diskKeepsUptoRow : OpenClaim := { program := "ytfbjjblgcgjndaa", sum := "d8101b1b8949e4dc569838e3c9579ae4968ded5cfeb0dd6bb43e8cba48765f13", func := "codicil/codicillaw07.DiskKeeps", spec := "diskKeeps", unfollowed := true, recurses := true, apart := false, narrowed := true }
def DiskKeepsUptoSaid : Prop := diskKeepsUptoRow.holds Try.pinned (OpenSpec.upto diskKeepsSpec)

/-- 'codicillaw07.DiskFails', WHERE WHAT IT READS IS OF BULK AT MOST 1048576: true; the input reads as it did. -/
def diskFailsUptoRow : OpenClaim := { program := "ytfbjjblgcgjndaa", sum := "d8101b1b8949e4dc569838e3c9579ae4968ded5cfeb0dd6bb43e8cba48765f13", func := "codicil/codicillaw07.DiskFails", spec := "diskFails", unfollowed := true, recurses := true, apart := false, narrowed := true }
def DiskFailsUptoSaid : Prop := diskFailsUptoRow.holds Try.pinned (OpenSpec.upto diskFailsSpec)

/-- 'codicillaw07.DiskDoes', WHERE WHAT IT READS IS OF BULK AT MOST 1048576: true; the input reads as it did. -/
def diskDoesUptoRow : OpenClaim := { program := "ytfbjjblgcgjndaa", sum := "d8101b1b8949e4dc569838e3c9579ae4968ded5cfeb0dd6bb43e8cba48765f13", func := "codicil/codicillaw07.DiskDoes", spec := "diskDoes", unfollowed := true, recurses := true, apart := false, narrowed := true }
def DiskDoesUptoSaid : Prop := diskDoesUptoRow.holds Try.pinned (OpenSpec.upto diskDoesSpec)

/-- 'codicillaw07.DiskLoads', WHERE WHAT IT READS IS OF BULK AT MOST 1048576: true; the input reads as it did. -/
def diskLoadsUptoRow : OpenClaim := { program := "ytfbjjblgcgjndaa", sum := "d8101b1b8949e4dc569838e3c9579ae4968ded5cfeb0dd6bb43e8cba48765f13", func := "codicil/codicillaw07.DiskLoads", spec := "diskLoads", unfollowed := true, recurses := true, apart := false, narrowed := true }
def DiskLoadsUptoSaid : Prop := diskLoadsUptoRow.holds Try.pinned (OpenSpec.upto diskLoadsSpec)

/-- 'codicillaw07.DiskAlone', WHERE WHAT IT READS IS OF BULK AT MOST 1048576: true; the input reads as it did. -/
def diskAloneUptoRow : OpenClaim := { program := "ytfbjjblgcgjndaa", sum := "d8101b1b8949e4dc569838e3c9579ae4968ded5cfeb0dd6bb43e8cba48765f13", func := "codicil/codicillaw07.DiskAlone", spec := "diskAlone", unfollowed := true, recurses := true, apart := false, narrowed := true }
def DiskAloneUptoSaid : Prop := diskAloneUptoRow.holds Try.pinned (OpenSpec.upto diskAloneSpec)

/-- 'codicillaw08.PageSeals', WHERE WHAT IT READS IS OF BULK AT MOST 1048576: true; the input reads as it did. -/
def pageSealsUptoRow : OpenClaim := { program := "ytfbjjblgcgjndaa", sum := "d8101b1b8949e4dc569838e3c9579ae4968ded5cfeb0dd6bb43e8cba48765f13", func := "codicil/codicillaw08.PageSeals", spec := "pageSeals", unfollowed := true, recurses := true, apart := false, narrowed := true }
def PageSealsUptoSaid : Prop := pageSealsUptoRow.holds Try.pinned (OpenSpec.upto pageSealsSpec)

/-- 'codicillaw08.PageOpens', WHERE WHAT IT READS IS OF BULK AT MOST 1048576: true; the input reads as it did. -/
def pageOpensUptoRow : OpenClaim := { program := "ytfbjjblgcgjndaa", sum := "d8101b1b8949e4dc569838e3c9579ae4968ded5cfeb0dd6bb43e8cba48765f13", func := "codicil/codicillaw08.PageOpens", spec := "pageOpens", unfollowed := true, recurses := true, apart := false, narrowed := true }
def PageOpensUptoSaid : Prop := pageOpensUptoRow.holds Try.pinned (OpenSpec.upto pageOpensSpec)

/-- 'codicillaw08.PageStates', WHERE WHAT IT READS IS OF BULK AT MOST 1048576: true; the input reads as it did. -/
def pageStatesUptoRow : OpenClaim := { program := "ytfbjjblgcgjndaa", sum := "d8101b1b8949e4dc569838e3c9579ae4968ded5cfeb0dd6bb43e8cba48765f13", func := "codicil/codicillaw08.PageStates", spec := "pageStates", unfollowed := true, recurses := true, apart := false, narrowed := true }
def PageStatesUptoSaid : Prop := pageStatesUptoRow.holds Try.pinned (OpenSpec.upto pageStatesSpec)

/-- 'codicillaw08.PageTurned', WHERE WHAT IT READS IS OF BULK AT MOST 1048576: true; the input reads as it did. -/
def pageTurnedUptoRow : OpenClaim := { program := "ytfbjjblgcgjndaa", sum := "d8101b1b8949e4dc569838e3c9579ae4968ded5cfeb0dd6bb43e8cba48765f13", func := "codicil/codicillaw08.PageTurned", spec := "pageTurned", unfollowed := true, recurses := true, apart := false, narrowed := true }
def PageTurnedUptoSaid : Prop := pageTurnedUptoRow.holds Try.pinned (OpenSpec.upto pageTurnedSpec)

/-- 'codicillaw08.PageNewest', WHERE WHAT IT READS IS OF BULK AT MOST 1048576: true; the input reads as it did. -/
def pageNewestUptoRow : OpenClaim := { program := "ytfbjjblgcgjndaa", sum := "d8101b1b8949e4dc569838e3c9579ae4968ded5cfeb0dd6bb43e8cba48765f13", func := "codicil/codicillaw08.PageNewest", spec := "pageNewest", unfollowed := true, recurses := true, apart := false, narrowed := true }
def PageNewestUptoSaid : Prop := pageNewestUptoRow.holds Try.pinned (OpenSpec.upto pageNewestSpec)

/-- 'codicillaw08.PageNumbers', WHERE WHAT IT READS IS OF BULK AT MOST 1048576: true; the input reads as it did. -/
def pageNumbersUptoRow : OpenClaim := { program := "ytfbjjblgcgjndaa", sum := "d8101b1b8949e4dc569838e3c9579ae4968ded5cfeb0dd6bb43e8cba48765f13", func := "codicil/codicillaw08.PageNumbers", spec := "pageNumbers", unfollowed := true, recurses := true, apart := false, narrowed := true }
def PageNumbersUptoSaid : Prop := pageNumbersUptoRow.holds Try.pinned (OpenSpec.upto pageNumbersSpec)

/-- 'codicillaw10.PoolKeeps', WHERE WHAT IT READS IS OF BULK AT MOST 1048576: true; the input reads as it did. -/
def poolKeepsUptoRow : OpenClaim := { program := "ytfbjjblgcgjndaa", sum := "d8101b1b8949e4dc569838e3c9579ae4968ded5cfeb0dd6bb43e8cba48765f13", func := "codicil/codicillaw10.PoolKeeps", spec := "poolKeeps", unfollowed := true, recurses := true, apart := false, narrowed := true }
def PoolKeepsUptoSaid : Prop := poolKeepsUptoRow.holds Try.pinned (OpenSpec.upto poolKeepsSpec)

/-- 'codicillaw10.PoolSizes', WHERE WHAT IT READS IS OF BULK AT MOST 1048576: true; the input reads as it did. -/
def poolSizesUptoRow : OpenClaim := { program := "ytfbjjblgcgjndaa", sum := "d8101b1b8949e4dc569838e3c9579ae4968ded5cfeb0dd6bb43e8cba48765f13", func := "codicil/codicillaw10.PoolSizes", spec := "poolSizes", unfollowed := true, recurses := true, apart := false, narrowed := true }
def PoolSizesUptoSaid : Prop := poolSizesUptoRow.holds Try.pinned (OpenSpec.upto poolSizesSpec)

/-- 'codicillaw10.PoolLast', WHERE WHAT IT READS IS OF BULK AT MOST 1048576: true; the input reads as it did. -/
def poolLastUptoRow : OpenClaim := { program := "ytfbjjblgcgjndaa", sum := "d8101b1b8949e4dc569838e3c9579ae4968ded5cfeb0dd6bb43e8cba48765f13", func := "codicil/codicillaw10.PoolLast", spec := "poolLast", unfollowed := true, recurses := true, apart := false, narrowed := true }
def PoolLastUptoSaid : Prop := poolLastUptoRow.holds Try.pinned (OpenSpec.upto poolLastSpec)

/-- 'codicillaw12.OverBack', WHERE WHAT IT READS IS OF BULK AT MOST 1048576: true; the input reads as it did. -/
def overBackUptoRow : OpenClaim := { program := "ytfbjjblgcgjndaa", sum := "d8101b1b8949e4dc569838e3c9579ae4968ded5cfeb0dd6bb43e8cba48765f13", func := "codicil/codicillaw12.OverBack", spec := "overBack", unfollowed := true, recurses := true, apart := false, narrowed := true }
def OverBackUptoSaid : Prop := overBackUptoRow.holds Try.pinned (OpenSpec.upto overBackSpec)

end Rows
end Go.Proofs.Ytfbjjblgcgjndaa
