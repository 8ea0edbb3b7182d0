/-
  DERIVED. GIVEN WITH THE SEED: THE CARDS: each row of YtajllcbjgndcpaaGreatDoorRows.lean that lists a variable, with what it lists TIED to the program's text (the seventh form; the later family's looks); each row that meets fmt, with fmt's text TOLD by the authors' own Lean function (tested against real Go, not proved from fmt's source: count such statements apart). THE CARD IS WHAT COUNTS. Prove the row's statement (the work); the ties are given (YtajllcbjgndcpaaGreatDoorTie.lean); close each card by the builder's one call (the guide's Derived/Test/ToyasCard.lean, 'card_holds'). Laid BY PROGRAM, IN A SANDBOX (cutbox-door.mjs). By AI agents, Wed Nov 11 2026. No macro, syntax, notation, axiom, sorry.
-/
import Derived.Test.YtajllcbjgndcpaaGreatDoorRows
import GoSem.ClaimSeven
namespace Go.Proofs.YtajllcbjgndcpaaGreatDoor
namespace Rows

/-- THE TIED CARD OF 'patchbaykeep4.ZoneCutTop'. -/
def zoneCutTopCard : Claim7 := { stood := { row := zoneCutTopRow, standIns := [], harness := (true, "1d4e721ad5788d448cc3378c6b68c9e8c1823ba486ebe172cf30355aaee73f8d"), looks := true }, kinds := [], alts := [], laidByText := true, laidKinds := [.data, .data, .data, .data, .sentinel, .sentinel, .widerDeep, .pinned], laidTests := true, laidLooks := .later }
def ZoneCutTopCardSaid : Prop := Claim7.holds Tryz.pinned (.plain (OpenSpec.ofChange zoneCutTopSpec)) zoneCutTopCard

/-- THE TIED CARD OF 'patchbaykeep4.ZoneBack'. -/
def zoneBackCard : Claim7 := { stood := { row := zoneBackRow, standIns := [], harness := (true, "1d4e721ad5788d448cc3378c6b68c9e8c1823ba486ebe172cf30355aaee73f8d"), looks := true }, kinds := [], alts := [], laidByText := true, laidKinds := [.data, .data, .data, .data, .sentinel, .sentinel, .widerDeep, .pinned], laidTests := true, laidLooks := .later }
def ZoneBackCardSaid : Prop := Claim7.holds Tryz.pinned (.plain (OpenSpec.ofChange zoneBackSpec)) zoneBackCard

/-- THE TIED CARD OF 'patchbaykeep4.ReplyOwn'. -/
def replyOwnCard : Claim7 := { stood := { row := replyOwnRow, standIns := [], harness := (true, "1d4e721ad5788d448cc3378c6b68c9e8c1823ba486ebe172cf30355aaee73f8d"), looks := true }, kinds := [], alts := [], laidByText := true, laidKinds := [.data, .data, .data, .data, .sentinel, .sentinel, .pinned], laidTests := true, laidLooks := .later }
def ReplyOwnCardSaid : Prop := Claim7.holds Tryz.pinned (.plain (OpenSpec.ofChange replyOwnSpec)) replyOwnCard

/-- THE TIED CARD OF 'patchbaykeep4.ReplyRefer'. -/
def replyReferCard : Claim7 := { stood := { row := replyReferRow, standIns := [], harness := (true, "1d4e721ad5788d448cc3378c6b68c9e8c1823ba486ebe172cf30355aaee73f8d"), looks := true }, kinds := [], alts := [], laidByText := true, laidKinds := [.data, .data, .data, .data, .sentinel, .sentinel, .pinned], laidTests := true, laidLooks := .later }
def ReplyReferCardSaid : Prop := Claim7.holds Tryz.pinned (.plain (OpenSpec.ofChange replyReferSpec)) replyReferCard

/-- THE TIED CARD OF 'patchbaykeep4.ReplyNoName'. -/
def replyNoNameCard : Claim7 := { stood := { row := replyNoNameRow, standIns := [], harness := (true, "1d4e721ad5788d448cc3378c6b68c9e8c1823ba486ebe172cf30355aaee73f8d"), looks := true }, kinds := [], alts := [], laidByText := true, laidKinds := [.data, .data, .data, .data, .sentinel, .sentinel, .pinned], laidTests := true, laidLooks := .later }
def ReplyNoNameCardSaid : Prop := Claim7.holds Tryz.pinned (.plain (OpenSpec.ofChange replyNoNameSpec)) replyNoNameCard

/-- THE TIED CARD OF 'patchbaykeep4.ZoneSorted'. -/
def zoneSortedCard : Claim7 := { stood := { row := zoneSortedRow, standIns := [], harness := (true, "1d4e721ad5788d448cc3378c6b68c9e8c1823ba486ebe172cf30355aaee73f8d"), looks := true }, kinds := [], alts := [], laidByText := true, laidKinds := [.data, .data, .data, .data, .sentinel, .sentinel, .widerDeep, .pinned], laidTests := true, laidLooks := .later }
def ZoneSortedCardSaid : Prop := Claim7.holds Tryz.pinned (.plain (OpenSpec.ofChange zoneSortedSpec)) zoneSortedCard

/-- THE TIED CARD OF 'patchbaykeep4.ResolveTree'. -/
def resolveTreeCard : Claim7 := { stood := { row := resolveTreeRow, standIns := [], harness := (true, "1d4e721ad5788d448cc3378c6b68c9e8c1823ba486ebe172cf30355aaee73f8d"), looks := true }, kinds := [], alts := [], laidByText := true, laidKinds := [.data, .data, .data, .data, .sentinel, .sentinel, .pinned], laidTests := true, laidLooks := .later }
def ResolveTreeCardSaid : Prop := Claim7.holds Tryz.pinned (.plain (OpenSpec.ofChange resolveTreeSpec)) resolveTreeCard

/-- THE TIED CARD OF 'patchbaykeep4.ResolveAlias'. -/
def resolveAliasCard : Claim7 := { stood := { row := resolveAliasRow, standIns := [], harness := (true, "1d4e721ad5788d448cc3378c6b68c9e8c1823ba486ebe172cf30355aaee73f8d"), looks := true }, kinds := [], alts := [], laidByText := true, laidKinds := [.data, .data, .data, .data, .sentinel, .sentinel, .pinned], laidTests := true, laidLooks := .later }
def ResolveAliasCardSaid : Prop := Claim7.holds Tryz.pinned (.plain (OpenSpec.ofChange resolveAliasSpec)) resolveAliasCard

/-- THE TIED CARD OF 'patchbaykeep4.ReplyOthers'. -/
def replyOthersCard : Claim7 := { stood := { row := replyOthersRow, standIns := [], harness := (true, "1d4e721ad5788d448cc3378c6b68c9e8c1823ba486ebe172cf30355aaee73f8d"), looks := true }, kinds := [], alts := [], laidByText := true, laidKinds := [.data, .data, .data, .data, .sentinel, .sentinel, .pinned], laidTests := true, laidLooks := .later }
def ReplyOthersCardSaid : Prop := Claim7.holds Tryz.pinned (.plain (OpenSpec.ofChange replyOthersSpec)) replyOthersCard

/-- THE TIED CARD OF 'patchbaykeep4.ResolverSame'. -/
def resolverSameCard : Claim7 := { stood := { row := resolverSameRow, standIns := [], harness := (true, "1d4e721ad5788d448cc3378c6b68c9e8c1823ba486ebe172cf30355aaee73f8d"), looks := true }, kinds := [], alts := [], laidByText := true, laidKinds := [.data, .data, .data, .data, .sentinel, .sentinel, .pinned], laidTests := true, laidLooks := .later }
def ResolverSameCardSaid : Prop := Claim7.holds Tryz.pinned (.plain (OpenSpec.ofChange resolverSameSpec)) resolverSameCard

/-- THE TIED CARD OF 'patchbaykeep4.ResolverCheap'. -/
def resolverCheapCard : Claim7 := { stood := { row := resolverCheapRow, standIns := [], harness := (true, "1d4e721ad5788d448cc3378c6b68c9e8c1823ba486ebe172cf30355aaee73f8d"), looks := true }, kinds := [], alts := [], laidByText := true, laidKinds := [.data, .data, .data, .data, .sentinel, .sentinel, .pinned], laidTests := true, laidLooks := .later }
def ResolverCheapCardSaid : Prop := Claim7.holds Tryz.pinned (.plain (OpenSpec.ofChange resolverCheapSpec)) resolverCheapCard

/-- THE SECOND FORM's CARD OF 'patchbaykeep4.ZoneCutTop'. -/
def zoneCutTopUptoCard : Claim7 := { stood := { row := zoneCutTopUptoRow, standIns := [], harness := (true, "1d4e721ad5788d448cc3378c6b68c9e8c1823ba486ebe172cf30355aaee73f8d"), looks := true }, kinds := [], alts := [], laidByText := true, laidKinds := [.data, .data, .data, .data, .sentinel, .sentinel, .widerDeep, .pinned], laidTests := true, laidLooks := .later }
def ZoneCutTopUptoCardSaid : Prop := Claim7.holds Tryz.pinned (.plain (OpenSpec.upto zoneCutTopSpec)) zoneCutTopUptoCard

/-- THE SECOND FORM's CARD OF 'patchbaykeep4.ZoneBack'. -/
def zoneBackUptoCard : Claim7 := { stood := { row := zoneBackUptoRow, standIns := [], harness := (true, "1d4e721ad5788d448cc3378c6b68c9e8c1823ba486ebe172cf30355aaee73f8d"), looks := true }, kinds := [], alts := [], laidByText := true, laidKinds := [.data, .data, .data, .data, .sentinel, .sentinel, .widerDeep, .pinned], laidTests := true, laidLooks := .later }
def ZoneBackUptoCardSaid : Prop := Claim7.holds Tryz.pinned (.plain (OpenSpec.upto zoneBackSpec)) zoneBackUptoCard

/-- THE SECOND FORM's CARD OF 'patchbaykeep4.ReplyOwn'. -/
def replyOwnUptoCard : Claim7 := { stood := { row := replyOwnUptoRow, standIns := [], harness := (true, "1d4e721ad5788d448cc3378c6b68c9e8c1823ba486ebe172cf30355aaee73f8d"), looks := true }, kinds := [], alts := [], laidByText := true, laidKinds := [.data, .data, .data, .data, .sentinel, .sentinel, .pinned], laidTests := true, laidLooks := .later }
def ReplyOwnUptoCardSaid : Prop := Claim7.holds Tryz.pinned (.plain (OpenSpec.upto replyOwnSpec)) replyOwnUptoCard

/-- THE SECOND FORM's CARD OF 'patchbaykeep4.ReplyRefer'. -/
def replyReferUptoCard : Claim7 := { stood := { row := replyReferUptoRow, standIns := [], harness := (true, "1d4e721ad5788d448cc3378c6b68c9e8c1823ba486ebe172cf30355aaee73f8d"), looks := true }, kinds := [], alts := [], laidByText := true, laidKinds := [.data, .data, .data, .data, .sentinel, .sentinel, .pinned], laidTests := true, laidLooks := .later }
def ReplyReferUptoCardSaid : Prop := Claim7.holds Tryz.pinned (.plain (OpenSpec.upto replyReferSpec)) replyReferUptoCard

/-- THE SECOND FORM's CARD OF 'patchbaykeep4.ReplyNoName'. -/
def replyNoNameUptoCard : Claim7 := { stood := { row := replyNoNameUptoRow, standIns := [], harness := (true, "1d4e721ad5788d448cc3378c6b68c9e8c1823ba486ebe172cf30355aaee73f8d"), looks := true }, kinds := [], alts := [], laidByText := true, laidKinds := [.data, .data, .data, .data, .sentinel, .sentinel, .pinned], laidTests := true, laidLooks := .later }
def ReplyNoNameUptoCardSaid : Prop := Claim7.holds Tryz.pinned (.plain (OpenSpec.upto replyNoNameSpec)) replyNoNameUptoCard

/-- THE SECOND FORM's CARD OF 'patchbaykeep4.ZoneSorted'. -/
def zoneSortedUptoCard : Claim7 := { stood := { row := zoneSortedUptoRow, standIns := [], harness := (true, "1d4e721ad5788d448cc3378c6b68c9e8c1823ba486ebe172cf30355aaee73f8d"), looks := true }, kinds := [], alts := [], laidByText := true, laidKinds := [.data, .data, .data, .data, .sentinel, .sentinel, .widerDeep, .pinned], laidTests := true, laidLooks := .later }
def ZoneSortedUptoCardSaid : Prop := Claim7.holds Tryz.pinned (.plain (OpenSpec.upto zoneSortedSpec)) zoneSortedUptoCard

/-- THE SECOND FORM's CARD OF 'patchbaykeep4.ResolveTree'. -/
def resolveTreeUptoCard : Claim7 := { stood := { row := resolveTreeUptoRow, standIns := [], harness := (true, "1d4e721ad5788d448cc3378c6b68c9e8c1823ba486ebe172cf30355aaee73f8d"), looks := true }, kinds := [], alts := [], laidByText := true, laidKinds := [.data, .data, .data, .data, .sentinel, .sentinel, .pinned], laidTests := true, laidLooks := .later }
def ResolveTreeUptoCardSaid : Prop := Claim7.holds Tryz.pinned (.plain (OpenSpec.upto resolveTreeSpec)) resolveTreeUptoCard

/-- THE SECOND FORM's CARD OF 'patchbaykeep4.ResolveAlias'. -/
def resolveAliasUptoCard : Claim7 := { stood := { row := resolveAliasUptoRow, standIns := [], harness := (true, "1d4e721ad5788d448cc3378c6b68c9e8c1823ba486ebe172cf30355aaee73f8d"), looks := true }, kinds := [], alts := [], laidByText := true, laidKinds := [.data, .data, .data, .data, .sentinel, .sentinel, .pinned], laidTests := true, laidLooks := .later }
def ResolveAliasUptoCardSaid : Prop := Claim7.holds Tryz.pinned (.plain (OpenSpec.upto resolveAliasSpec)) resolveAliasUptoCard

/-- THE SECOND FORM's CARD OF 'patchbaykeep4.ReplyOthers'. -/
def replyOthersUptoCard : Claim7 := { stood := { row := replyOthersUptoRow, standIns := [], harness := (true, "1d4e721ad5788d448cc3378c6b68c9e8c1823ba486ebe172cf30355aaee73f8d"), looks := true }, kinds := [], alts := [], laidByText := true, laidKinds := [.data, .data, .data, .data, .sentinel, .sentinel, .pinned], laidTests := true, laidLooks := .later }
def ReplyOthersUptoCardSaid : Prop := Claim7.holds Tryz.pinned (.plain (OpenSpec.upto replyOthersSpec)) replyOthersUptoCard

/-- THE SECOND FORM's CARD OF 'patchbaykeep4.ResolverSame'. -/
def resolverSameUptoCard : Claim7 := { stood := { row := resolverSameUptoRow, standIns := [], harness := (true, "1d4e721ad5788d448cc3378c6b68c9e8c1823ba486ebe172cf30355aaee73f8d"), looks := true }, kinds := [], alts := [], laidByText := true, laidKinds := [.data, .data, .data, .data, .sentinel, .sentinel, .pinned], laidTests := true, laidLooks := .later }
def ResolverSameUptoCardSaid : Prop := Claim7.holds Tryz.pinned (.plain (OpenSpec.upto resolverSameSpec)) resolverSameUptoCard

/-- THE SECOND FORM's CARD OF 'patchbaykeep4.ResolverCheap'. -/
def resolverCheapUptoCard : Claim7 := { stood := { row := resolverCheapUptoRow, standIns := [], harness := (true, "1d4e721ad5788d448cc3378c6b68c9e8c1823ba486ebe172cf30355aaee73f8d"), looks := true }, kinds := [], alts := [], laidByText := true, laidKinds := [.data, .data, .data, .data, .sentinel, .sentinel, .pinned], laidTests := true, laidLooks := .later }
def ResolverCheapUptoCardSaid : Prop := Claim7.holds Tryz.pinned (.plain (OpenSpec.upto resolverCheapSpec)) resolverCheapUptoCard
end Rows
end Go.Proofs.YtajllcbjgndcpaaGreatDoor
