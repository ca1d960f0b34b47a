/-
  DERIVED. GIVEN WITH THE SEED: THE CARDS: each row of YtljpjckklkpipaaDoorRows.lean that lists a variable, with what it lists TIED to the program's text (the seventh form; the later family's looks); each row that meets fmt, with fmt's text TOLD by the authors' own Lean function (tested against real Go, not proved from fmt's source: count such statements apart). THE CARD IS WHAT COUNTS. Prove the row's statement (the work); the ties are given (YtljpjckklkpipaaDoorTie.lean); close each card by the builder's one call (the guide's Derived/Test/ToyasCard.lean, 'card_holds'). Laid BY PROGRAM, IN A SANDBOX (cutbox-door.mjs). By AI agents, Wed Nov 11 2026. No macro, syntax, notation, axiom, sorry.
-/
import Derived.Test.YtljpjckklkpipaaDoorRows
import GoSem.ClaimSeven
namespace Go.Proofs.YtljpjckklkpipaaDoor
namespace Rows

/-- THE TIED CARD OF 'wapentakelaw27.PleaSplits'. -/
def pleaSplitsCard : Claim7 := { stood := { row := pleaSplitsRow, standIns := [], harness := (true, "6b24c727af5d447d82b1687893877140851fdf15ef9ef79920a171eb8c900232"), looks := true }, kinds := [], alts := [], laidByText := true, laidKinds := [.data, .data], laidTests := true, laidLooks := .later }
def PleaSplitsCardSaid : Prop := Claim7.holds Tryd.pinned (.plain (OpenSpec.ofChange pleaSplitsSpec)) pleaSplitsCard

/-- THE TIED CARD OF 'wapentakelaw24.ProofChecks'. -/
def proofChecksCard : Claim7 := { stood := { row := proofChecksRow, standIns := [], harness := (true, "6b24c727af5d447d82b1687893877140851fdf15ef9ef79920a171eb8c900232"), looks := true }, kinds := [], alts := [], laidByText := true, laidKinds := [.data, .data], laidTests := true, laidLooks := .later }
def ProofChecksCardSaid : Prop := Claim7.holds Tryd.pinned (.plain (OpenSpec.ofChange proofChecksSpec)) proofChecksCard

/-- THE TIED CARD OF 'wapentakelaw24.ProofOne'. -/
def proofOneCard : Claim7 := { stood := { row := proofOneRow, standIns := [], harness := (true, "6b24c727af5d447d82b1687893877140851fdf15ef9ef79920a171eb8c900232"), looks := true }, kinds := [], alts := [], laidByText := true, laidKinds := [.data, .data], laidTests := true, laidLooks := .later }
def ProofOneCardSaid : Prop := Claim7.holds Tryd.pinned (.plain (OpenSpec.ofChange proofOneSpec)) proofOneCard

/-- THE TIED CARD OF 'wapentakelaw24.ProofReplays'. -/
def proofReplaysCard : Claim7 := { stood := { row := proofReplaysRow, standIns := [], harness := (true, "6b24c727af5d447d82b1687893877140851fdf15ef9ef79920a171eb8c900232"), looks := true }, kinds := [], alts := [], laidByText := true, laidKinds := [.data, .data], laidTests := true, laidLooks := .later }
def ProofReplaysCardSaid : Prop := Claim7.holds Tryd.pinned (.plain (OpenSpec.ofChange proofReplaysSpec)) proofReplaysCard

/-- THE TIED CARD OF 'wapentakelaw24.ProofOrder'. -/
def proofOrderCard : Claim7 := { stood := { row := proofOrderRow, standIns := [], harness := (true, "6b24c727af5d447d82b1687893877140851fdf15ef9ef79920a171eb8c900232"), looks := true }, kinds := [], alts := [], laidByText := true, laidKinds := [.data, .data], laidTests := true, laidLooks := .later }
def ProofOrderCardSaid : Prop := Claim7.holds Tryd.pinned (.plain (OpenSpec.ofChange proofOrderSpec)) proofOrderCard

/-- THE TIED CARD OF 'wapentakelaw13.TableReads'. -/
def tableReadsCard : Claim7 := { stood := { row := tableReadsRow, standIns := [], harness := (true, "6b24c727af5d447d82b1687893877140851fdf15ef9ef79920a171eb8c900232"), looks := true }, kinds := [], alts := [], laidByText := true, laidKinds := [.data, .data, .data], laidTests := true, laidLooks := .later }
def TableReadsCardSaid : Prop := Claim7.holds Tryd.pinned (.plain (OpenSpec.ofChange tableReadsSpec)) tableReadsCard

/-- THE TIED CARD OF 'wapentakelaw27.PleaChecks'. -/
def pleaChecksCard : Claim7 := { stood := { row := pleaChecksRow, standIns := [], harness := (true, "6b24c727af5d447d82b1687893877140851fdf15ef9ef79920a171eb8c900232"), looks := true }, kinds := [], alts := [], laidByText := true, laidKinds := [.data, .data], laidTests := true, laidLooks := .later }
def PleaChecksCardSaid : Prop := Claim7.holds Tryd.pinned (.plain (OpenSpec.ofChange pleaChecksSpec)) pleaChecksCard

/-- THE TIED CARD OF 'wapentakelaw27.PleaLocal'. -/
def pleaLocalCard : Claim7 := { stood := { row := pleaLocalRow, standIns := [], harness := (true, "6b24c727af5d447d82b1687893877140851fdf15ef9ef79920a171eb8c900232"), looks := true }, kinds := [], alts := [], laidByText := true, laidKinds := [.data, .data], laidTests := true, laidLooks := .later }
def PleaLocalCardSaid : Prop := Claim7.holds Tryd.pinned (.plain (OpenSpec.ofChange pleaLocalSpec)) pleaLocalCard

/-- THE TIED CARD OF 'wapentakelaw13.TableSteps'. -/
def tableStepsCard : Claim7 := { stood := { row := tableStepsRow, standIns := [], harness := (true, "6b24c727af5d447d82b1687893877140851fdf15ef9ef79920a171eb8c900232"), looks := true }, kinds := [], alts := [], laidByText := true, laidKinds := [.data, .data, .data], laidTests := true, laidLooks := .later }
def TableStepsCardSaid : Prop := Claim7.holds Tryd.pinned (.plain (OpenSpec.ofChange tableStepsSpec)) tableStepsCard

/-- THE TIED CARD OF 'wapentakelaw13.TableFull'. -/
def tableFullCard : Claim7 := { stood := { row := tableFullRow, standIns := [], harness := (true, "6b24c727af5d447d82b1687893877140851fdf15ef9ef79920a171eb8c900232"), looks := true }, kinds := [], alts := [], laidByText := true, laidKinds := [.data, .data, .data], laidTests := true, laidLooks := .later }
def TableFullCardSaid : Prop := Claim7.holds Tryd.pinned (.plain (OpenSpec.ofChange tableFullSpec)) tableFullCard

/-- THE TIED CARD OF 'wapentakelaw16.StockPlaces'. -/
def stockPlacesCard : Claim7 := { stood := { row := stockPlacesRow, standIns := [], harness := (true, "6b24c727af5d447d82b1687893877140851fdf15ef9ef79920a171eb8c900232"), looks := true }, kinds := [], alts := [], laidByText := true, laidKinds := [.data, .data, .data, .data, .data], laidTests := true, laidLooks := .later }
def StockPlacesCardSaid : Prop := Claim7.holds Tryd.pinned (.plain (OpenSpec.ofChange stockPlacesSpec)) stockPlacesCard

/-- THE TIED CARD OF 'wapentakelaw13.TableBack'. -/
def tableBackCard : Claim7 := { stood := { row := tableBackRow, standIns := [], harness := (true, "6b24c727af5d447d82b1687893877140851fdf15ef9ef79920a171eb8c900232"), looks := true }, kinds := [], alts := [], laidByText := true, laidKinds := [.data, .data, .data, .sentinel, .sentinel], laidTests := true, laidLooks := .later }
def TableBackCardSaid : Prop := Claim7.holds Tryd.pinned (.plain (OpenSpec.ofChange tableBackSpec)) tableBackCard

/-- THE TIED CARD OF 'wapentakelaw13.TableLoads'. -/
def tableLoadsCard : Claim7 := { stood := { row := tableLoadsRow, standIns := [], harness := (true, "6b24c727af5d447d82b1687893877140851fdf15ef9ef79920a171eb8c900232"), looks := true }, kinds := [], alts := [], laidByText := true, laidKinds := [.data, .data, .data, .sentinel, .sentinel], laidTests := true, laidLooks := .later }
def TableLoadsCardSaid : Prop := Claim7.holds Tryd.pinned (.plain (OpenSpec.ofChange tableLoadsSpec)) tableLoadsCard

/-- THE TIED CARD OF 'wapentakelaw03.SealTags'. -/
def sealTagsCard : Claim7 := { stood := { row := sealTagsRow, standIns := [], harness := (true, "6b24c727af5d447d82b1687893877140851fdf15ef9ef79920a171eb8c900232"), looks := true }, kinds := [], alts := [], laidByText := true, laidKinds := [.data, .data, .data, .data, .data], laidTests := true, laidLooks := .later }
def SealTagsCardSaid : Prop := Claim7.holds Tryd.pinned (.plain (OpenSpec.ofChange sealTagsSpec)) sealTagsCard

/-- THE TIED CARD OF 'wapentakelaw03.SealNil'. -/
def sealNilCard : Claim7 := { stood := { row := sealNilRow, standIns := [], harness := (true, "6b24c727af5d447d82b1687893877140851fdf15ef9ef79920a171eb8c900232"), looks := true }, kinds := [], alts := [], laidByText := true, laidKinds := [.data, .data, .data, .data, .data], laidTests := true, laidLooks := .later }
def SealNilCardSaid : Prop := Claim7.holds Tryd.pinned (.plain (OpenSpec.ofChange sealNilSpec)) sealNilCard

/-- THE TIED CARD OF 'wapentakelaw19.MemoBytes'. -/
def memoBytesCard : Claim7 := { stood := { row := memoBytesRow, standIns := [], harness := (true, "6b24c727af5d447d82b1687893877140851fdf15ef9ef79920a171eb8c900232"), looks := true }, kinds := [], alts := [], laidByText := true, laidKinds := [.data, .data, .data, .sentinel, .sentinel], laidTests := true, laidLooks := .later }
def MemoBytesCardSaid : Prop := Claim7.holds Tryd.pinned (.plain (OpenSpec.ofChange memoBytesSpec)) memoBytesCard

/-- THE TIED CARD OF 'wapentakelaw03.SealNames'. -/
def sealNamesCard : Claim7 := { stood := { row := sealNamesRow, standIns := [], harness := (true, "6b24c727af5d447d82b1687893877140851fdf15ef9ef79920a171eb8c900232"), looks := true }, kinds := [], alts := [], laidByText := true, laidKinds := [.data, .data, .data, .sentinel, .sentinel, .data, .data], laidTests := true, laidLooks := .later }
def SealNamesCardSaid : Prop := Claim7.holds Tryd.pinned (.plain (OpenSpec.ofChange sealNamesSpec)) sealNamesCard

/-- THE TIED CARD OF 'wapentakelaw19.MemoApart'. -/
def memoApartCard : Claim7 := { stood := { row := memoApartRow, standIns := [], harness := (true, "6b24c727af5d447d82b1687893877140851fdf15ef9ef79920a171eb8c900232"), looks := true }, kinds := [], alts := [], laidByText := true, laidKinds := [.data, .data, .data, .sentinel, .sentinel], laidTests := true, laidLooks := .later }
def MemoApartCardSaid : Prop := Claim7.holds Tryd.pinned (.plain (OpenSpec.ofChange memoApartSpec)) memoApartCard

/-- THE TIED CARD OF 'wapentakelaw03.SealBytes'. -/
def sealBytesCard : Claim7 := { stood := { row := sealBytesRow, standIns := [], harness := (true, "6b24c727af5d447d82b1687893877140851fdf15ef9ef79920a171eb8c900232"), looks := true }, kinds := [], alts := [], laidByText := true, laidKinds := [.data, .data, .data, .sentinel, .sentinel, .data, .data], laidTests := true, laidLooks := .later }
def SealBytesCardSaid : Prop := Claim7.holds Tryd.pinned (.plain (OpenSpec.ofChange sealBytesSpec)) sealBytesCard

/-- THE SECOND FORM's CARD OF 'wapentakelaw27.PleaSplits'. -/
def pleaSplitsUptoCard : Claim7 := { stood := { row := pleaSplitsUptoRow, standIns := [], harness := (true, "6b24c727af5d447d82b1687893877140851fdf15ef9ef79920a171eb8c900232"), looks := true }, kinds := [], alts := [], laidByText := true, laidKinds := [.data, .data], laidTests := true, laidLooks := .later }
def PleaSplitsUptoCardSaid : Prop := Claim7.holds Tryd.pinned (.plain (OpenSpec.upto pleaSplitsSpec)) pleaSplitsUptoCard

/-- THE SECOND FORM's CARD OF 'wapentakelaw24.ProofChecks'. -/
def proofChecksUptoCard : Claim7 := { stood := { row := proofChecksUptoRow, standIns := [], harness := (true, "6b24c727af5d447d82b1687893877140851fdf15ef9ef79920a171eb8c900232"), looks := true }, kinds := [], alts := [], laidByText := true, laidKinds := [.data, .data], laidTests := true, laidLooks := .later }
def ProofChecksUptoCardSaid : Prop := Claim7.holds Tryd.pinned (.plain (OpenSpec.upto proofChecksSpec)) proofChecksUptoCard

/-- THE SECOND FORM's CARD OF 'wapentakelaw24.ProofOne'. -/
def proofOneUptoCard : Claim7 := { stood := { row := proofOneUptoRow, standIns := [], harness := (true, "6b24c727af5d447d82b1687893877140851fdf15ef9ef79920a171eb8c900232"), looks := true }, kinds := [], alts := [], laidByText := true, laidKinds := [.data, .data], laidTests := true, laidLooks := .later }
def ProofOneUptoCardSaid : Prop := Claim7.holds Tryd.pinned (.plain (OpenSpec.upto proofOneSpec)) proofOneUptoCard

/-- THE SECOND FORM's CARD OF 'wapentakelaw24.ProofReplays'. -/
def proofReplaysUptoCard : Claim7 := { stood := { row := proofReplaysUptoRow, standIns := [], harness := (true, "6b24c727af5d447d82b1687893877140851fdf15ef9ef79920a171eb8c900232"), looks := true }, kinds := [], alts := [], laidByText := true, laidKinds := [.data, .data], laidTests := true, laidLooks := .later }
def ProofReplaysUptoCardSaid : Prop := Claim7.holds Tryd.pinned (.plain (OpenSpec.upto proofReplaysSpec)) proofReplaysUptoCard

/-- THE SECOND FORM's CARD OF 'wapentakelaw24.ProofOrder'. -/
def proofOrderUptoCard : Claim7 := { stood := { row := proofOrderUptoRow, standIns := [], harness := (true, "6b24c727af5d447d82b1687893877140851fdf15ef9ef79920a171eb8c900232"), looks := true }, kinds := [], alts := [], laidByText := true, laidKinds := [.data, .data], laidTests := true, laidLooks := .later }
def ProofOrderUptoCardSaid : Prop := Claim7.holds Tryd.pinned (.plain (OpenSpec.upto proofOrderSpec)) proofOrderUptoCard

/-- THE SECOND FORM's CARD OF 'wapentakelaw13.TableReads'. -/
def tableReadsUptoCard : Claim7 := { stood := { row := tableReadsUptoRow, standIns := [], harness := (true, "6b24c727af5d447d82b1687893877140851fdf15ef9ef79920a171eb8c900232"), looks := true }, kinds := [], alts := [], laidByText := true, laidKinds := [.data, .data, .data], laidTests := true, laidLooks := .later }
def TableReadsUptoCardSaid : Prop := Claim7.holds Tryd.pinned (.plain (OpenSpec.upto tableReadsSpec)) tableReadsUptoCard

/-- THE SECOND FORM's CARD OF 'wapentakelaw27.PleaChecks'. -/
def pleaChecksUptoCard : Claim7 := { stood := { row := pleaChecksUptoRow, standIns := [], harness := (true, "6b24c727af5d447d82b1687893877140851fdf15ef9ef79920a171eb8c900232"), looks := true }, kinds := [], alts := [], laidByText := true, laidKinds := [.data, .data], laidTests := true, laidLooks := .later }
def PleaChecksUptoCardSaid : Prop := Claim7.holds Tryd.pinned (.plain (OpenSpec.upto pleaChecksSpec)) pleaChecksUptoCard

/-- THE SECOND FORM's CARD OF 'wapentakelaw27.PleaLocal'. -/
def pleaLocalUptoCard : Claim7 := { stood := { row := pleaLocalUptoRow, standIns := [], harness := (true, "6b24c727af5d447d82b1687893877140851fdf15ef9ef79920a171eb8c900232"), looks := true }, kinds := [], alts := [], laidByText := true, laidKinds := [.data, .data], laidTests := true, laidLooks := .later }
def PleaLocalUptoCardSaid : Prop := Claim7.holds Tryd.pinned (.plain (OpenSpec.upto pleaLocalSpec)) pleaLocalUptoCard

/-- THE SECOND FORM's CARD OF 'wapentakelaw13.TableSteps'. -/
def tableStepsUptoCard : Claim7 := { stood := { row := tableStepsUptoRow, standIns := [], harness := (true, "6b24c727af5d447d82b1687893877140851fdf15ef9ef79920a171eb8c900232"), looks := true }, kinds := [], alts := [], laidByText := true, laidKinds := [.data, .data, .data], laidTests := true, laidLooks := .later }
def TableStepsUptoCardSaid : Prop := Claim7.holds Tryd.pinned (.plain (OpenSpec.upto tableStepsSpec)) tableStepsUptoCard

/-- THE SECOND FORM's CARD OF 'wapentakelaw13.TableFull'. -/
def tableFullUptoCard : Claim7 := { stood := { row := tableFullUptoRow, standIns := [], harness := (true, "6b24c727af5d447d82b1687893877140851fdf15ef9ef79920a171eb8c900232"), looks := true }, kinds := [], alts := [], laidByText := true, laidKinds := [.data, .data, .data], laidTests := true, laidLooks := .later }
def TableFullUptoCardSaid : Prop := Claim7.holds Tryd.pinned (.plain (OpenSpec.upto tableFullSpec)) tableFullUptoCard

/-- THE SECOND FORM's CARD OF 'wapentakelaw16.StockPlaces'. -/
def stockPlacesUptoCard : Claim7 := { stood := { row := stockPlacesUptoRow, standIns := [], harness := (true, "6b24c727af5d447d82b1687893877140851fdf15ef9ef79920a171eb8c900232"), looks := true }, kinds := [], alts := [], laidByText := true, laidKinds := [.data, .data, .data, .data, .data], laidTests := true, laidLooks := .later }
def StockPlacesUptoCardSaid : Prop := Claim7.holds Tryd.pinned (.plain (OpenSpec.upto stockPlacesSpec)) stockPlacesUptoCard

/-- THE SECOND FORM's CARD OF 'wapentakelaw13.TableBack'. -/
def tableBackUptoCard : Claim7 := { stood := { row := tableBackUptoRow, standIns := [], harness := (true, "6b24c727af5d447d82b1687893877140851fdf15ef9ef79920a171eb8c900232"), looks := true }, kinds := [], alts := [], laidByText := true, laidKinds := [.data, .data, .data, .sentinel, .sentinel], laidTests := true, laidLooks := .later }
def TableBackUptoCardSaid : Prop := Claim7.holds Tryd.pinned (.plain (OpenSpec.upto tableBackSpec)) tableBackUptoCard

/-- THE SECOND FORM's CARD OF 'wapentakelaw13.TableLoads'. -/
def tableLoadsUptoCard : Claim7 := { stood := { row := tableLoadsUptoRow, standIns := [], harness := (true, "6b24c727af5d447d82b1687893877140851fdf15ef9ef79920a171eb8c900232"), looks := true }, kinds := [], alts := [], laidByText := true, laidKinds := [.data, .data, .data, .sentinel, .sentinel], laidTests := true, laidLooks := .later }
def TableLoadsUptoCardSaid : Prop := Claim7.holds Tryd.pinned (.plain (OpenSpec.upto tableLoadsSpec)) tableLoadsUptoCard

/-- THE SECOND FORM's CARD OF 'wapentakelaw03.SealTags'. -/
def sealTagsUptoCard : Claim7 := { stood := { row := sealTagsUptoRow, standIns := [], harness := (true, "6b24c727af5d447d82b1687893877140851fdf15ef9ef79920a171eb8c900232"), looks := true }, kinds := [], alts := [], laidByText := true, laidKinds := [.data, .data, .data, .data, .data], laidTests := true, laidLooks := .later }
def SealTagsUptoCardSaid : Prop := Claim7.holds Tryd.pinned (.plain (OpenSpec.upto sealTagsSpec)) sealTagsUptoCard

/-- THE SECOND FORM's CARD OF 'wapentakelaw03.SealNil'. -/
def sealNilUptoCard : Claim7 := { stood := { row := sealNilUptoRow, standIns := [], harness := (true, "6b24c727af5d447d82b1687893877140851fdf15ef9ef79920a171eb8c900232"), looks := true }, kinds := [], alts := [], laidByText := true, laidKinds := [.data, .data, .data, .data, .data], laidTests := true, laidLooks := .later }
def SealNilUptoCardSaid : Prop := Claim7.holds Tryd.pinned (.plain (OpenSpec.upto sealNilSpec)) sealNilUptoCard

/-- THE SECOND FORM's CARD OF 'wapentakelaw19.MemoBytes'. -/
def memoBytesUptoCard : Claim7 := { stood := { row := memoBytesUptoRow, standIns := [], harness := (true, "6b24c727af5d447d82b1687893877140851fdf15ef9ef79920a171eb8c900232"), looks := true }, kinds := [], alts := [], laidByText := true, laidKinds := [.data, .data, .data, .sentinel, .sentinel], laidTests := true, laidLooks := .later }
def MemoBytesUptoCardSaid : Prop := Claim7.holds Tryd.pinned (.plain (OpenSpec.upto memoBytesSpec)) memoBytesUptoCard

/-- THE SECOND FORM's CARD OF 'wapentakelaw03.SealNames'. -/
def sealNamesUptoCard : Claim7 := { stood := { row := sealNamesUptoRow, standIns := [], harness := (true, "6b24c727af5d447d82b1687893877140851fdf15ef9ef79920a171eb8c900232"), looks := true }, kinds := [], alts := [], laidByText := true, laidKinds := [.data, .data, .data, .sentinel, .sentinel, .data, .data], laidTests := true, laidLooks := .later }
def SealNamesUptoCardSaid : Prop := Claim7.holds Tryd.pinned (.plain (OpenSpec.upto sealNamesSpec)) sealNamesUptoCard

/-- THE SECOND FORM's CARD OF 'wapentakelaw19.MemoApart'. -/
def memoApartUptoCard : Claim7 := { stood := { row := memoApartUptoRow, standIns := [], harness := (true, "6b24c727af5d447d82b1687893877140851fdf15ef9ef79920a171eb8c900232"), looks := true }, kinds := [], alts := [], laidByText := true, laidKinds := [.data, .data, .data, .sentinel, .sentinel], laidTests := true, laidLooks := .later }
def MemoApartUptoCardSaid : Prop := Claim7.holds Tryd.pinned (.plain (OpenSpec.upto memoApartSpec)) memoApartUptoCard

/-- THE SECOND FORM's CARD OF 'wapentakelaw03.SealBytes'. -/
def sealBytesUptoCard : Claim7 := { stood := { row := sealBytesUptoRow, standIns := [], harness := (true, "6b24c727af5d447d82b1687893877140851fdf15ef9ef79920a171eb8c900232"), looks := true }, kinds := [], alts := [], laidByText := true, laidKinds := [.data, .data, .data, .sentinel, .sentinel, .data, .data], laidTests := true, laidLooks := .later }
def SealBytesUptoCardSaid : Prop := Claim7.holds Tryd.pinned (.plain (OpenSpec.upto sealBytesSpec)) sealBytesUptoCard
end Rows
end Go.Proofs.YtljpjckklkpipaaDoor
