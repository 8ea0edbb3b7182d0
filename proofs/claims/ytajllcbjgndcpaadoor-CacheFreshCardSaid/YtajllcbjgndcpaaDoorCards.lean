/-
  DERIVED. GIVEN WITH THE SEED: THE CARDS: each row of YtajllcbjgndcpaaDoorRows.lean that lists a variable, with what it lists TIED to the program's text (the seventh form; the later family's looks); each row that meets fmt, with fmt's text TOLD by the authors' own Lean function (tested against real Go, not proved from fmt's source: count such statements apart). THE CARD IS WHAT COUNTS. Prove the row's statement (the work); the ties are given (YtajllcbjgndcpaaDoorTie.lean); close each card by the builder's one call (the guide's Derived/Test/ToyasCard.lean, 'card_holds'). Laid BY PROGRAM, IN A SANDBOX (cutbox-door.mjs). By AI agents, Wed Nov 11 2026. No macro, syntax, notation, axiom, sorry.
-/
import Derived.Test.YtajllcbjgndcpaaDoorRows
import GoSem.ClaimSeven
namespace Go.Proofs.YtajllcbjgndcpaaDoor
namespace Rows

/-- THE TIED CARD OF 'patchbaykeep4.LabelShort'. -/
def labelShortCard : Claim7 := { stood := { row := labelShortRow, standIns := [], harness := (true, "394975f60d09271b4f143197691c1e98ade46a11ec55251ad1b97683e5e675ce"), looks := false }, kinds := [], alts := [], laidByText := true, laidKinds := [.data, .pinned], laidTests := true, laidLooks := .later }
def LabelShortCardSaid : Prop := Claim7.holds Tryd.pinned (.plain (OpenSpec.ofChange labelShortSpec)) labelShortCard

/-- THE TIED CARD OF 'patchbaykeep4.CacheFresh'. -/
def cacheFreshCard : Claim7 := { stood := { row := cacheFreshRow, standIns := [], harness := (true, "394975f60d09271b4f143197691c1e98ade46a11ec55251ad1b97683e5e675ce"), looks := false }, kinds := [], alts := [], laidByText := true, laidKinds := [.data, .pinned], laidTests := true, laidLooks := .later }
def CacheFreshCardSaid : Prop := Claim7.holds Tryd.pinned (.plain (OpenSpec.ofChange cacheFreshSpec)) cacheFreshCard

/-- THE TIED CARD OF 'patchbaykeep4.LabelAbove'. -/
def labelAboveCard : Claim7 := { stood := { row := labelAboveRow, standIns := [], harness := (true, "394975f60d09271b4f143197691c1e98ade46a11ec55251ad1b97683e5e675ce"), looks := false }, kinds := [], alts := [], laidByText := true, laidKinds := [.data, .pinned], laidTests := true, laidLooks := .later }
def LabelAboveCardSaid : Prop := Claim7.holds Tryd.pinned (.plain (OpenSpec.ofChange labelAboveSpec)) labelAboveCard

/-- THE TIED CARD OF 'patchbaykeep4.CacheRoom'. -/
def cacheRoomCard : Claim7 := { stood := { row := cacheRoomRow, standIns := [], harness := (true, "394975f60d09271b4f143197691c1e98ade46a11ec55251ad1b97683e5e675ce"), looks := false }, kinds := [], alts := [], laidByText := true, laidKinds := [.data, .pinned], laidTests := true, laidLooks := .later }
def CacheRoomCardSaid : Prop := Claim7.holds Tryd.pinned (.plain (OpenSpec.ofChange cacheRoomSpec)) cacheRoomCard

/-- THE TIED CARD OF 'patchbaykeep4.CacheTime'. -/
def cacheTimeCard : Claim7 := { stood := { row := cacheTimeRow, standIns := [], harness := (true, "394975f60d09271b4f143197691c1e98ade46a11ec55251ad1b97683e5e675ce"), looks := false }, kinds := [], alts := [], laidByText := true, laidKinds := [.data, .pinned], laidTests := true, laidLooks := .later }
def CacheTimeCardSaid : Prop := Claim7.holds Tryd.pinned (.plain (OpenSpec.ofChange cacheTimeSpec)) cacheTimeCard

/-- THE TIED CARD OF 'patchbaykeep4.LabelBack'. -/
def labelBackCard : Claim7 := { stood := { row := labelBackRow, standIns := [], harness := (true, "394975f60d09271b4f143197691c1e98ade46a11ec55251ad1b97683e5e675ce"), looks := false }, kinds := [], alts := [], laidByText := true, laidKinds := [.data, .pinned], laidTests := true, laidLooks := .later }
def LabelBackCardSaid : Prop := Claim7.holds Tryd.pinned (.plain (OpenSpec.ofChange labelBackSpec)) labelBackCard

/-- THE TIED CARD OF 'patchbaykeep4.LabelOrder'. -/
def labelOrderCard : Claim7 := { stood := { row := labelOrderRow, standIns := [], harness := (true, "394975f60d09271b4f143197691c1e98ade46a11ec55251ad1b97683e5e675ce"), looks := false }, kinds := [], alts := [], laidByText := true, laidKinds := [.data, .pinned], laidTests := true, laidLooks := .later }
def LabelOrderCardSaid : Prop := Claim7.holds Tryd.pinned (.plain (OpenSpec.ofChange labelOrderSpec)) labelOrderCard

/-- THE SECOND FORM's CARD OF 'patchbaykeep4.LabelShort'. -/
def labelShortUptoCard : Claim7 := { stood := { row := labelShortUptoRow, standIns := [], harness := (true, "394975f60d09271b4f143197691c1e98ade46a11ec55251ad1b97683e5e675ce"), looks := false }, kinds := [], alts := [], laidByText := true, laidKinds := [.data, .pinned], laidTests := true, laidLooks := .later }
def LabelShortUptoCardSaid : Prop := Claim7.holds Tryd.pinned (.plain (OpenSpec.upto labelShortSpec)) labelShortUptoCard

/-- THE SECOND FORM's CARD OF 'patchbaykeep4.CacheFresh'. -/
def cacheFreshUptoCard : Claim7 := { stood := { row := cacheFreshUptoRow, standIns := [], harness := (true, "394975f60d09271b4f143197691c1e98ade46a11ec55251ad1b97683e5e675ce"), looks := false }, kinds := [], alts := [], laidByText := true, laidKinds := [.data, .pinned], laidTests := true, laidLooks := .later }
def CacheFreshUptoCardSaid : Prop := Claim7.holds Tryd.pinned (.plain (OpenSpec.upto cacheFreshSpec)) cacheFreshUptoCard

/-- THE SECOND FORM's CARD OF 'patchbaykeep4.LabelAbove'. -/
def labelAboveUptoCard : Claim7 := { stood := { row := labelAboveUptoRow, standIns := [], harness := (true, "394975f60d09271b4f143197691c1e98ade46a11ec55251ad1b97683e5e675ce"), looks := false }, kinds := [], alts := [], laidByText := true, laidKinds := [.data, .pinned], laidTests := true, laidLooks := .later }
def LabelAboveUptoCardSaid : Prop := Claim7.holds Tryd.pinned (.plain (OpenSpec.upto labelAboveSpec)) labelAboveUptoCard

/-- THE SECOND FORM's CARD OF 'patchbaykeep4.CacheRoom'. -/
def cacheRoomUptoCard : Claim7 := { stood := { row := cacheRoomUptoRow, standIns := [], harness := (true, "394975f60d09271b4f143197691c1e98ade46a11ec55251ad1b97683e5e675ce"), looks := false }, kinds := [], alts := [], laidByText := true, laidKinds := [.data, .pinned], laidTests := true, laidLooks := .later }
def CacheRoomUptoCardSaid : Prop := Claim7.holds Tryd.pinned (.plain (OpenSpec.upto cacheRoomSpec)) cacheRoomUptoCard

/-- THE SECOND FORM's CARD OF 'patchbaykeep4.CacheTime'. -/
def cacheTimeUptoCard : Claim7 := { stood := { row := cacheTimeUptoRow, standIns := [], harness := (true, "394975f60d09271b4f143197691c1e98ade46a11ec55251ad1b97683e5e675ce"), looks := false }, kinds := [], alts := [], laidByText := true, laidKinds := [.data, .pinned], laidTests := true, laidLooks := .later }
def CacheTimeUptoCardSaid : Prop := Claim7.holds Tryd.pinned (.plain (OpenSpec.upto cacheTimeSpec)) cacheTimeUptoCard

/-- THE SECOND FORM's CARD OF 'patchbaykeep4.LabelBack'. -/
def labelBackUptoCard : Claim7 := { stood := { row := labelBackUptoRow, standIns := [], harness := (true, "394975f60d09271b4f143197691c1e98ade46a11ec55251ad1b97683e5e675ce"), looks := false }, kinds := [], alts := [], laidByText := true, laidKinds := [.data, .pinned], laidTests := true, laidLooks := .later }
def LabelBackUptoCardSaid : Prop := Claim7.holds Tryd.pinned (.plain (OpenSpec.upto labelBackSpec)) labelBackUptoCard

/-- THE SECOND FORM's CARD OF 'patchbaykeep4.LabelOrder'. -/
def labelOrderUptoCard : Claim7 := { stood := { row := labelOrderUptoRow, standIns := [], harness := (true, "394975f60d09271b4f143197691c1e98ade46a11ec55251ad1b97683e5e675ce"), looks := false }, kinds := [], alts := [], laidByText := true, laidKinds := [.data, .pinned], laidTests := true, laidLooks := .later }
def LabelOrderUptoCardSaid : Prop := Claim7.holds Tryd.pinned (.plain (OpenSpec.upto labelOrderSpec)) labelOrderUptoCard
end Rows
end Go.Proofs.YtajllcbjgndcpaaDoor
