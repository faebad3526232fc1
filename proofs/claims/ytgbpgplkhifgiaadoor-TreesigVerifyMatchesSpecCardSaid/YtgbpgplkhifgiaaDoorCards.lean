/-
  DERIVED. GIVEN WITH THE SEED: THE CARDS: each row of YtgbpgplkhifgiaaDoorRows.lean that lists a variable, with what it lists TIED to the program's text (the seventh form; the later family's looks); each row that meets fmt, with fmt's text TOLD by the authors' own Lean function (tested against real Go, not proved from fmt's source: count such statements apart). THE CARD IS WHAT COUNTS. Prove the row's statement (the work); the ties are given (YtgbpgplkhifgiaaDoorTie.lean); close each card by the builder's one call (the guide's Derived/Test/ToyasCard.lean, 'card_holds'). Laid BY PROGRAM, IN A SANDBOX (cutbox-door.mjs). By AI agents, Wed Nov 11 2026. No macro, syntax, notation, axiom, sorry.
-/
import Derived.Test.YtgbpgplkhifgiaaDoorRows
import GoSem.ClaimSeven
namespace Go.Proofs.YtgbpgplkhifgiaaDoor
namespace Rows

/-- THE TIED CARD OF 'bootchaintop.TopKeysOnce'. -/
def topKeysOnceCard : Claim7 := { stood := { row := topKeysOnceRow, standIns := [], harness := (true, "1f7228ecc30db96422f7eff86bcd234cff7766a2089915b410f6763b33ffab23"), looks := true }, kinds := [], alts := [], laidByText := true, laidKinds := [.data, .data], laidTests := true, laidLooks := .later }
def TopKeysOnceCardSaid : Prop := Claim7.holds Tryd.pinned (.plain (OpenSpec.ofChange topKeysOnceSpec)) topKeysOnceCard

/-- THE TIED CARD OF 'bootchainlaw05.TreesigMatchesSpec'. -/
def treesigMatchesSpecCard : Claim7 := { stood := { row := treesigMatchesSpecRow, standIns := [], harness := (true, "1f7228ecc30db96422f7eff86bcd234cff7766a2089915b410f6763b33ffab23"), looks := true }, kinds := [], alts := [], laidByText := true, laidKinds := [.data, .data], laidTests := true, laidLooks := .later }
def TreesigMatchesSpecCardSaid : Prop := Claim7.holds Tryd.pinned (.plain (OpenSpec.ofChange treesigMatchesSpecSpec)) treesigMatchesSpecCard

/-- THE TIED CARD OF 'bootchainlaw05.TreesigVerifyMatchesSpec'. -/
def treesigVerifyMatchesSpecCard : Claim7 := { stood := { row := treesigVerifyMatchesSpecRow, standIns := [], harness := (true, "1f7228ecc30db96422f7eff86bcd234cff7766a2089915b410f6763b33ffab23"), looks := true }, kinds := [], alts := [], laidByText := true, laidKinds := [.data, .data], laidTests := true, laidLooks := .later }
def TreesigVerifyMatchesSpecCardSaid : Prop := Claim7.holds Tryd.pinned (.plain (OpenSpec.ofChange treesigVerifyMatchesSpecSpec)) treesigVerifyMatchesSpecCard

/-- THE TIED CARD OF 'bootchainlaw05.TreesigVerifiesOwn'. -/
def treesigVerifiesOwnCard : Claim7 := { stood := { row := treesigVerifiesOwnRow, standIns := [], harness := (true, "1f7228ecc30db96422f7eff86bcd234cff7766a2089915b410f6763b33ffab23"), looks := true }, kinds := [], alts := [], laidByText := true, laidKinds := [.data, .data], laidTests := true, laidLooks := .later }
def TreesigVerifiesOwnCardSaid : Prop := Claim7.holds Tryd.pinned (.plain (OpenSpec.ofChange treesigVerifiesOwnSpec)) treesigVerifiesOwnCard

/-- THE TIED CARD OF 'bootchainlaw05.TreesigRejectsMalformed'. -/
def treesigRejectsMalformedCard : Claim7 := { stood := { row := treesigRejectsMalformedRow, standIns := [], harness := (true, "1f7228ecc30db96422f7eff86bcd234cff7766a2089915b410f6763b33ffab23"), looks := true }, kinds := [], alts := [], laidByText := true, laidKinds := [.data, .data], laidTests := true, laidLooks := .later }
def TreesigRejectsMalformedCardSaid : Prop := Claim7.holds Tryd.pinned (.plain (OpenSpec.ofChange treesigRejectsMalformedSpec)) treesigRejectsMalformedCard

/-- THE TIED CARD OF 'bootchainlaw05.TreesigBindsKey'. -/
def treesigBindsKeyCard : Claim7 := { stood := { row := treesigBindsKeyRow, standIns := [], harness := (true, "1f7228ecc30db96422f7eff86bcd234cff7766a2089915b410f6763b33ffab23"), looks := true }, kinds := [], alts := [], laidByText := true, laidKinds := [.data, .data], laidTests := true, laidLooks := .later }
def TreesigBindsKeyCardSaid : Prop := Claim7.holds Tryd.pinned (.plain (OpenSpec.ofChange treesigBindsKeySpec)) treesigBindsKeyCard

/-- THE TIED CARD OF 'bootchainlaw05.TreesigSharesPaths'. -/
def treesigSharesPathsCard : Claim7 := { stood := { row := treesigSharesPathsRow, standIns := [], harness := (true, "1f7228ecc30db96422f7eff86bcd234cff7766a2089915b410f6763b33ffab23"), looks := true }, kinds := [], alts := [], laidByText := true, laidKinds := [.data, .data], laidTests := true, laidLooks := .later }
def TreesigSharesPathsCardSaid : Prop := Claim7.holds Tryd.pinned (.plain (OpenSpec.ofChange treesigSharesPathsSpec)) treesigSharesPathsCard

/-- THE TIED CARD OF 'bootchainlaw24.QuorumCheck'. -/
def quorumCheckCard : Claim7 := { stood := { row := quorumCheckRow, standIns := [], harness := (true, "1f7228ecc30db96422f7eff86bcd234cff7766a2089915b410f6763b33ffab23"), looks := true }, kinds := [], alts := [], laidByText := true, laidKinds := [.data, .data], laidTests := true, laidLooks := .later }
def QuorumCheckCardSaid : Prop := Claim7.holds Tryd.pinned (.plain (OpenSpec.ofChange quorumCheckSpec)) quorumCheckCard

/-- THE TIED CARD OF 'bootchainlaw24.QuorumThreshold'. -/
def quorumThresholdCard : Claim7 := { stood := { row := quorumThresholdRow, standIns := [], harness := (true, "1f7228ecc30db96422f7eff86bcd234cff7766a2089915b410f6763b33ffab23"), looks := true }, kinds := [], alts := [], laidByText := true, laidKinds := [.data, .data], laidTests := true, laidLooks := .later }
def QuorumThresholdCardSaid : Prop := Claim7.holds Tryd.pinned (.plain (OpenSpec.ofChange quorumThresholdSpec)) quorumThresholdCard

/-- THE TIED CARD OF 'bootchainlaw24.QuorumRotation'. -/
def quorumRotationCard : Claim7 := { stood := { row := quorumRotationRow, standIns := [], harness := (true, "1f7228ecc30db96422f7eff86bcd234cff7766a2089915b410f6763b33ffab23"), looks := true }, kinds := [], alts := [], laidByText := true, laidKinds := [.data, .data], laidTests := true, laidLooks := .later }
def QuorumRotationCardSaid : Prop := Claim7.holds Tryd.pinned (.plain (OpenSpec.ofChange quorumRotationSpec)) quorumRotationCard

/-- THE TIED CARD OF 'bootchainlaw24.QuorumBundle'. -/
def quorumBundleCard : Claim7 := { stood := { row := quorumBundleRow, standIns := [], harness := (true, "1f7228ecc30db96422f7eff86bcd234cff7766a2089915b410f6763b33ffab23"), looks := true }, kinds := [], alts := [], laidByText := true, laidKinds := [.data, .data], laidTests := true, laidLooks := .later }
def QuorumBundleCardSaid : Prop := Claim7.holds Tryd.pinned (.plain (OpenSpec.ofChange quorumBundleSpec)) quorumBundleCard

/-- THE TIED CARD OF 'bootchainlaw24.QuorumForged'. -/
def quorumForgedCard : Claim7 := { stood := { row := quorumForgedRow, standIns := [], harness := (true, "1f7228ecc30db96422f7eff86bcd234cff7766a2089915b410f6763b33ffab23"), looks := true }, kinds := [], alts := [], laidByText := true, laidKinds := [.data, .data], laidTests := true, laidLooks := .later }
def QuorumForgedCardSaid : Prop := Claim7.holds Tryd.pinned (.plain (OpenSpec.ofChange quorumForgedSpec)) quorumForgedCard

/-- THE SECOND FORM's CARD OF 'bootchaintop.TopKeysOnce'. -/
def topKeysOnceUptoCard : Claim7 := { stood := { row := topKeysOnceUptoRow, standIns := [], harness := (true, "1f7228ecc30db96422f7eff86bcd234cff7766a2089915b410f6763b33ffab23"), looks := true }, kinds := [], alts := [], laidByText := true, laidKinds := [.data, .data], laidTests := true, laidLooks := .later }
def TopKeysOnceUptoCardSaid : Prop := Claim7.holds Tryd.pinned (.plain (OpenSpec.upto topKeysOnceSpec)) topKeysOnceUptoCard

/-- THE SECOND FORM's CARD OF 'bootchainlaw05.TreesigMatchesSpec'. -/
def treesigMatchesSpecUptoCard : Claim7 := { stood := { row := treesigMatchesSpecUptoRow, standIns := [], harness := (true, "1f7228ecc30db96422f7eff86bcd234cff7766a2089915b410f6763b33ffab23"), looks := true }, kinds := [], alts := [], laidByText := true, laidKinds := [.data, .data], laidTests := true, laidLooks := .later }
def TreesigMatchesSpecUptoCardSaid : Prop := Claim7.holds Tryd.pinned (.plain (OpenSpec.upto treesigMatchesSpecSpec)) treesigMatchesSpecUptoCard

/-- THE SECOND FORM's CARD OF 'bootchainlaw05.TreesigVerifyMatchesSpec'. -/
def treesigVerifyMatchesSpecUptoCard : Claim7 := { stood := { row := treesigVerifyMatchesSpecUptoRow, standIns := [], harness := (true, "1f7228ecc30db96422f7eff86bcd234cff7766a2089915b410f6763b33ffab23"), looks := true }, kinds := [], alts := [], laidByText := true, laidKinds := [.data, .data], laidTests := true, laidLooks := .later }
def TreesigVerifyMatchesSpecUptoCardSaid : Prop := Claim7.holds Tryd.pinned (.plain (OpenSpec.upto treesigVerifyMatchesSpecSpec)) treesigVerifyMatchesSpecUptoCard

/-- THE SECOND FORM's CARD OF 'bootchainlaw05.TreesigVerifiesOwn'. -/
def treesigVerifiesOwnUptoCard : Claim7 := { stood := { row := treesigVerifiesOwnUptoRow, standIns := [], harness := (true, "1f7228ecc30db96422f7eff86bcd234cff7766a2089915b410f6763b33ffab23"), looks := true }, kinds := [], alts := [], laidByText := true, laidKinds := [.data, .data], laidTests := true, laidLooks := .later }
def TreesigVerifiesOwnUptoCardSaid : Prop := Claim7.holds Tryd.pinned (.plain (OpenSpec.upto treesigVerifiesOwnSpec)) treesigVerifiesOwnUptoCard

/-- THE SECOND FORM's CARD OF 'bootchainlaw05.TreesigRejectsMalformed'. -/
def treesigRejectsMalformedUptoCard : Claim7 := { stood := { row := treesigRejectsMalformedUptoRow, standIns := [], harness := (true, "1f7228ecc30db96422f7eff86bcd234cff7766a2089915b410f6763b33ffab23"), looks := true }, kinds := [], alts := [], laidByText := true, laidKinds := [.data, .data], laidTests := true, laidLooks := .later }
def TreesigRejectsMalformedUptoCardSaid : Prop := Claim7.holds Tryd.pinned (.plain (OpenSpec.upto treesigRejectsMalformedSpec)) treesigRejectsMalformedUptoCard

/-- THE SECOND FORM's CARD OF 'bootchainlaw05.TreesigBindsKey'. -/
def treesigBindsKeyUptoCard : Claim7 := { stood := { row := treesigBindsKeyUptoRow, standIns := [], harness := (true, "1f7228ecc30db96422f7eff86bcd234cff7766a2089915b410f6763b33ffab23"), looks := true }, kinds := [], alts := [], laidByText := true, laidKinds := [.data, .data], laidTests := true, laidLooks := .later }
def TreesigBindsKeyUptoCardSaid : Prop := Claim7.holds Tryd.pinned (.plain (OpenSpec.upto treesigBindsKeySpec)) treesigBindsKeyUptoCard

/-- THE SECOND FORM's CARD OF 'bootchainlaw05.TreesigSharesPaths'. -/
def treesigSharesPathsUptoCard : Claim7 := { stood := { row := treesigSharesPathsUptoRow, standIns := [], harness := (true, "1f7228ecc30db96422f7eff86bcd234cff7766a2089915b410f6763b33ffab23"), looks := true }, kinds := [], alts := [], laidByText := true, laidKinds := [.data, .data], laidTests := true, laidLooks := .later }
def TreesigSharesPathsUptoCardSaid : Prop := Claim7.holds Tryd.pinned (.plain (OpenSpec.upto treesigSharesPathsSpec)) treesigSharesPathsUptoCard

/-- THE SECOND FORM's CARD OF 'bootchainlaw24.QuorumCheck'. -/
def quorumCheckUptoCard : Claim7 := { stood := { row := quorumCheckUptoRow, standIns := [], harness := (true, "1f7228ecc30db96422f7eff86bcd234cff7766a2089915b410f6763b33ffab23"), looks := true }, kinds := [], alts := [], laidByText := true, laidKinds := [.data, .data], laidTests := true, laidLooks := .later }
def QuorumCheckUptoCardSaid : Prop := Claim7.holds Tryd.pinned (.plain (OpenSpec.upto quorumCheckSpec)) quorumCheckUptoCard

/-- THE SECOND FORM's CARD OF 'bootchainlaw24.QuorumThreshold'. -/
def quorumThresholdUptoCard : Claim7 := { stood := { row := quorumThresholdUptoRow, standIns := [], harness := (true, "1f7228ecc30db96422f7eff86bcd234cff7766a2089915b410f6763b33ffab23"), looks := true }, kinds := [], alts := [], laidByText := true, laidKinds := [.data, .data], laidTests := true, laidLooks := .later }
def QuorumThresholdUptoCardSaid : Prop := Claim7.holds Tryd.pinned (.plain (OpenSpec.upto quorumThresholdSpec)) quorumThresholdUptoCard

/-- THE SECOND FORM's CARD OF 'bootchainlaw24.QuorumRotation'. -/
def quorumRotationUptoCard : Claim7 := { stood := { row := quorumRotationUptoRow, standIns := [], harness := (true, "1f7228ecc30db96422f7eff86bcd234cff7766a2089915b410f6763b33ffab23"), looks := true }, kinds := [], alts := [], laidByText := true, laidKinds := [.data, .data], laidTests := true, laidLooks := .later }
def QuorumRotationUptoCardSaid : Prop := Claim7.holds Tryd.pinned (.plain (OpenSpec.upto quorumRotationSpec)) quorumRotationUptoCard

/-- THE SECOND FORM's CARD OF 'bootchainlaw24.QuorumBundle'. -/
def quorumBundleUptoCard : Claim7 := { stood := { row := quorumBundleUptoRow, standIns := [], harness := (true, "1f7228ecc30db96422f7eff86bcd234cff7766a2089915b410f6763b33ffab23"), looks := true }, kinds := [], alts := [], laidByText := true, laidKinds := [.data, .data], laidTests := true, laidLooks := .later }
def QuorumBundleUptoCardSaid : Prop := Claim7.holds Tryd.pinned (.plain (OpenSpec.upto quorumBundleSpec)) quorumBundleUptoCard

/-- THE SECOND FORM's CARD OF 'bootchainlaw24.QuorumForged'. -/
def quorumForgedUptoCard : Claim7 := { stood := { row := quorumForgedUptoRow, standIns := [], harness := (true, "1f7228ecc30db96422f7eff86bcd234cff7766a2089915b410f6763b33ffab23"), looks := true }, kinds := [], alts := [], laidByText := true, laidKinds := [.data, .data], laidTests := true, laidLooks := .later }
def QuorumForgedUptoCardSaid : Prop := Claim7.holds Tryd.pinned (.plain (OpenSpec.upto quorumForgedSpec)) quorumForgedUptoCard
end Rows
end Go.Proofs.YtgbpgplkhifgiaaDoor
