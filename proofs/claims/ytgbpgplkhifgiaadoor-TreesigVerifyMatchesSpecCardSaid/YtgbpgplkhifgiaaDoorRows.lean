/-
  NARROWER THAN 'FOR EVERY INPUT', by the rows' own cells (each row's printed sentence says how): TopKeysOnce: laid · TreesigMatchesSpec: laid · TreesigVerifyMatchesSpec: laid · TreesigVerifiesOwn: laid · TreesigRejectsMalformed: laid · TreesigBindsKey: laid · TreesigSharesPaths: laid · QuorumCheck: laid · QuorumThreshold: laid · QuorumRotation: laid · QuorumBundle: laid · QuorumForged: laid.
  DERIVED. THE GIVEN ROWS OF THIS SEAT. 12 by the template 'for every input the law returns true; each argument reads behind the call as it read before'; 0 by the template 'total and deterministic' (their statements: YtgbpgplkhifgiaaDoorTotals.lean).
  GIVEN WITH THE SEED: the statements are not yours to turn. If you find one false, say at which input.
  Laid BY PROGRAM, IN A SANDBOX (cutbox-rows.mjs): the forced cells as the released guide's own fill.sh prints them over the translation 17bab61cca5517b4… (all of the seat's roots in one cut). By AI agents, Wed Nov 11 2026. No macro, syntax, notation, axiom, sorry.
-/
import Derived.Test.YtgbpgplkhifgiaaDoorChecked
import GoSem.Claim
import GoSem.ClaimJoined
import GoSem.ClaimMapViews
import Derived.JoinedTies
import Derived.KernelRfl
namespace Go.Proofs.YtgbpgplkhifgiaaDoor
/- THE CELL 'sum', in the pinned program and in every row, IS THE sha256 OF THE DUMP (.gsa) THAT YtgbpgplkhifgiaaDoorProg.lean LOADS. Nothing in Lean hashes anything: it is a label: what it is worth is what the hold of that sum in a sandbox is worth. -/
noncomputable def Tryd.pinned : Pinned := { name := "ytgbpgplkhifgiaadoor", sum := "17bab61cca5517b4fd1db9bb940f9a2ddcdd7d26f82b6463024ef825d7250870", checked := Tryd.checked }
namespace Rows
def none {H : Type} : Left H := { results := [], args := [] }

/- WHAT THE LISTED PACKAGE-LEVEL VARIABLES READ AS WHEN THE CALL BEGINS. Each datum BY PROGRAM (the guide's laid-datum.mjs) off the statement by which the dump's own 'gosem.cut.vars' lays the variable. In a bare row this is a premise. The card (YtgbpgplkhifgiaaDoorCards.lean) ties it to the program's text. -/
def laid_bootchain_sha_constants {H : Type} : DataW H := .agg [.lit (.int .u32 1116352408), .lit (.int .u32 1899447441), .lit (.int .u32 3049323471), .lit (.int .u32 3921009573), .lit (.int .u32 961987163), .lit (.int .u32 1508970993), .lit (.int .u32 2453635748), .lit (.int .u32 2870763221), .lit (.int .u32 3624381080), .lit (.int .u32 310598401), .lit (.int .u32 607225278), .lit (.int .u32 1426881987), .lit (.int .u32 1925078388), .lit (.int .u32 2162078206), .lit (.int .u32 2614888103), .lit (.int .u32 3248222580), .lit (.int .u32 3835390401), .lit (.int .u32 4022224774), .lit (.int .u32 264347078), .lit (.int .u32 604807628), .lit (.int .u32 770255983), .lit (.int .u32 1249150122), .lit (.int .u32 1555081692), .lit (.int .u32 1996064986), .lit (.int .u32 2554220882), .lit (.int .u32 2821834349), .lit (.int .u32 2952996808), .lit (.int .u32 3210313671), .lit (.int .u32 3336571891), .lit (.int .u32 3584528711), .lit (.int .u32 113926993), .lit (.int .u32 338241895), .lit (.int .u32 666307205), .lit (.int .u32 773529912), .lit (.int .u32 1294757372), .lit (.int .u32 1396182291), .lit (.int .u32 1695183700), .lit (.int .u32 1986661051), .lit (.int .u32 2177026350), .lit (.int .u32 2456956037), .lit (.int .u32 2730485921), .lit (.int .u32 2820302411), .lit (.int .u32 3259730800), .lit (.int .u32 3345764771), .lit (.int .u32 3516065817), .lit (.int .u32 3600352804), .lit (.int .u32 4094571909), .lit (.int .u32 275423344), .lit (.int .u32 430227734), .lit (.int .u32 506948616), .lit (.int .u32 659060556), .lit (.int .u32 883997877), .lit (.int .u32 958139571), .lit (.int .u32 1322822218), .lit (.int .u32 1537002063), .lit (.int .u32 1747873779), .lit (.int .u32 1955562222), .lit (.int .u32 2024104815), .lit (.int .u32 2227730452), .lit (.int .u32 2361852424), .lit (.int .u32 2428436474), .lit (.int .u32 2756734187), .lit (.int .u32 3204031479), .lit (.int .u32 3329325298)]
def laid_bootchain_sha_start {H : Type} : DataW H := .agg [.lit (.int .u32 1779033703), .lit (.int .u32 3144134277), .lit (.int .u32 1013904242), .lit (.int .u32 2773480762), .lit (.int .u32 1359893119), .lit (.int .u32 2600822924), .lit (.int .u32 528734635), .lit (.int .u32 1541459225)]

/-- 'bootchaintop.TopKeysOnce': WHATEVER THE INPUT: true; the input reads as it did. -/
def topKeysOnceSpec : ChangeSpec := { name := "topKeysOnce", fn := fun _ => fun
  | [d1, d2, d3, d4, d5] => { results := [.lit (.bool true)], args := [d1, d2, d3, d4, d5] }
  | _ => none }
def topKeysOnceRow : OpenClaim := { program := "ytgbpgplkhifgiaadoor", sum := "17bab61cca5517b4fd1db9bb940f9a2ddcdd7d26f82b6463024ef825d7250870", func := "bootchain/bootchaintop.TopKeysOnce", spec := "topKeysOnce", inPlace := ["internal/bytealg.MakeNoZero"], unfollowed := true, recurses := true, named := ["bootchain/sha.start", "bootchain/sha.constants"], apart := false, laid := [("bootchain/sha.constants", laid_bootchain_sha_constants), ("bootchain/sha.start", laid_bootchain_sha_start)] }
def TopKeysOnceSaid : Prop := topKeysOnceRow.holds Tryd.pinned (OpenSpec.ofChange topKeysOnceSpec)

/-- ITS FALSE NEIGHBOUR: 'it returns false'. Refute it at one input. -/
def topKeysOnceWrong : ChangeSpec := { name := "topKeysOnce", fn := fun _ => fun
  | [d1, d2, d3, d4, d5] => { results := [.lit (.bool false)], args := [d1, d2, d3, d4, d5] }
  | _ => none }
def TopKeysOnceWrongFalsely : Prop := topKeysOnceRow.holds Tryd.pinned (OpenSpec.ofChange topKeysOnceWrong)

/-- 'bootchainlaw05.TreesigMatchesSpec': WHATEVER THE INPUT: true; the input reads as it did. -/
def treesigMatchesSpecSpec : ChangeSpec := { name := "treesigMatchesSpec", fn := fun _ => fun
  | [d] => { results := [.lit (.bool true)], args := [d] }
  | _ => none }
def treesigMatchesSpecRow : OpenClaim := { program := "ytgbpgplkhifgiaadoor", sum := "17bab61cca5517b4fd1db9bb940f9a2ddcdd7d26f82b6463024ef825d7250870", func := "bootchain/bootchainlaw05.TreesigMatchesSpec", spec := "treesigMatchesSpec", inPlace := ["internal/bytealg.MakeNoZero"], unfollowed := true, recurses := true, named := ["bootchain/sha.start", "bootchain/sha.constants"], apart := false, laid := [("bootchain/sha.constants", laid_bootchain_sha_constants), ("bootchain/sha.start", laid_bootchain_sha_start)] }
def TreesigMatchesSpecSaid : Prop := treesigMatchesSpecRow.holds Tryd.pinned (OpenSpec.ofChange treesigMatchesSpecSpec)

/-- ITS FALSE NEIGHBOUR: 'it returns false'. Refute it at one input. -/
def treesigMatchesSpecWrong : ChangeSpec := { name := "treesigMatchesSpec", fn := fun _ => fun
  | [d] => { results := [.lit (.bool false)], args := [d] }
  | _ => none }
def TreesigMatchesSpecWrongFalsely : Prop := treesigMatchesSpecRow.holds Tryd.pinned (OpenSpec.ofChange treesigMatchesSpecWrong)

/-- 'bootchainlaw05.TreesigVerifyMatchesSpec': WHATEVER THE INPUT: true; the input reads as it did. -/
def treesigVerifyMatchesSpecSpec : ChangeSpec := { name := "treesigVerifyMatchesSpec", fn := fun _ => fun
  | [d] => { results := [.lit (.bool true)], args := [d] }
  | _ => none }
def treesigVerifyMatchesSpecRow : OpenClaim := { program := "ytgbpgplkhifgiaadoor", sum := "17bab61cca5517b4fd1db9bb940f9a2ddcdd7d26f82b6463024ef825d7250870", func := "bootchain/bootchainlaw05.TreesigVerifyMatchesSpec", spec := "treesigVerifyMatchesSpec", inPlace := ["internal/bytealg.MakeNoZero"], unfollowed := true, recurses := true, named := ["bootchain/sha.start", "bootchain/sha.constants"], apart := false, laid := [("bootchain/sha.constants", laid_bootchain_sha_constants), ("bootchain/sha.start", laid_bootchain_sha_start)] }
def TreesigVerifyMatchesSpecSaid : Prop := treesigVerifyMatchesSpecRow.holds Tryd.pinned (OpenSpec.ofChange treesigVerifyMatchesSpecSpec)

/-- ITS FALSE NEIGHBOUR: 'it returns false'. Refute it at one input. -/
def treesigVerifyMatchesSpecWrong : ChangeSpec := { name := "treesigVerifyMatchesSpec", fn := fun _ => fun
  | [d] => { results := [.lit (.bool false)], args := [d] }
  | _ => none }
def TreesigVerifyMatchesSpecWrongFalsely : Prop := treesigVerifyMatchesSpecRow.holds Tryd.pinned (OpenSpec.ofChange treesigVerifyMatchesSpecWrong)

/-- 'bootchainlaw05.TreesigVerifiesOwn': WHATEVER THE INPUT: true; the input reads as it did. -/
def treesigVerifiesOwnSpec : ChangeSpec := { name := "treesigVerifiesOwn", fn := fun _ => fun
  | [d] => { results := [.lit (.bool true)], args := [d] }
  | _ => none }
def treesigVerifiesOwnRow : OpenClaim := { program := "ytgbpgplkhifgiaadoor", sum := "17bab61cca5517b4fd1db9bb940f9a2ddcdd7d26f82b6463024ef825d7250870", func := "bootchain/bootchainlaw05.TreesigVerifiesOwn", spec := "treesigVerifiesOwn", inPlace := ["internal/bytealg.MakeNoZero"], unfollowed := true, recurses := true, named := ["bootchain/sha.start", "bootchain/sha.constants"], apart := false, laid := [("bootchain/sha.constants", laid_bootchain_sha_constants), ("bootchain/sha.start", laid_bootchain_sha_start)] }
def TreesigVerifiesOwnSaid : Prop := treesigVerifiesOwnRow.holds Tryd.pinned (OpenSpec.ofChange treesigVerifiesOwnSpec)

/-- ITS FALSE NEIGHBOUR: 'it returns false'. Refute it at one input. -/
def treesigVerifiesOwnWrong : ChangeSpec := { name := "treesigVerifiesOwn", fn := fun _ => fun
  | [d] => { results := [.lit (.bool false)], args := [d] }
  | _ => none }
def TreesigVerifiesOwnWrongFalsely : Prop := treesigVerifiesOwnRow.holds Tryd.pinned (OpenSpec.ofChange treesigVerifiesOwnWrong)

/-- 'bootchainlaw05.TreesigRejectsMalformed': WHATEVER THE INPUT: true; the input reads as it did. -/
def treesigRejectsMalformedSpec : ChangeSpec := { name := "treesigRejectsMalformed", fn := fun _ => fun
  | [d] => { results := [.lit (.bool true)], args := [d] }
  | _ => none }
def treesigRejectsMalformedRow : OpenClaim := { program := "ytgbpgplkhifgiaadoor", sum := "17bab61cca5517b4fd1db9bb940f9a2ddcdd7d26f82b6463024ef825d7250870", func := "bootchain/bootchainlaw05.TreesigRejectsMalformed", spec := "treesigRejectsMalformed", inPlace := ["internal/bytealg.MakeNoZero"], unfollowed := true, recurses := true, named := ["bootchain/sha.start", "bootchain/sha.constants"], apart := false, laid := [("bootchain/sha.constants", laid_bootchain_sha_constants), ("bootchain/sha.start", laid_bootchain_sha_start)] }
def TreesigRejectsMalformedSaid : Prop := treesigRejectsMalformedRow.holds Tryd.pinned (OpenSpec.ofChange treesigRejectsMalformedSpec)

/-- ITS FALSE NEIGHBOUR: 'it returns false'. Refute it at one input. -/
def treesigRejectsMalformedWrong : ChangeSpec := { name := "treesigRejectsMalformed", fn := fun _ => fun
  | [d] => { results := [.lit (.bool false)], args := [d] }
  | _ => none }
def TreesigRejectsMalformedWrongFalsely : Prop := treesigRejectsMalformedRow.holds Tryd.pinned (OpenSpec.ofChange treesigRejectsMalformedWrong)

/-- 'bootchainlaw05.TreesigBindsKey': WHATEVER THE INPUT: true; the input reads as it did. -/
def treesigBindsKeySpec : ChangeSpec := { name := "treesigBindsKey", fn := fun _ => fun
  | [d] => { results := [.lit (.bool true)], args := [d] }
  | _ => none }
def treesigBindsKeyRow : OpenClaim := { program := "ytgbpgplkhifgiaadoor", sum := "17bab61cca5517b4fd1db9bb940f9a2ddcdd7d26f82b6463024ef825d7250870", func := "bootchain/bootchainlaw05.TreesigBindsKey", spec := "treesigBindsKey", inPlace := ["internal/bytealg.MakeNoZero"], unfollowed := true, recurses := true, named := ["bootchain/sha.start", "bootchain/sha.constants"], apart := false, laid := [("bootchain/sha.constants", laid_bootchain_sha_constants), ("bootchain/sha.start", laid_bootchain_sha_start)] }
def TreesigBindsKeySaid : Prop := treesigBindsKeyRow.holds Tryd.pinned (OpenSpec.ofChange treesigBindsKeySpec)

/-- ITS FALSE NEIGHBOUR: 'it returns false'. Refute it at one input. -/
def treesigBindsKeyWrong : ChangeSpec := { name := "treesigBindsKey", fn := fun _ => fun
  | [d] => { results := [.lit (.bool false)], args := [d] }
  | _ => none }
def TreesigBindsKeyWrongFalsely : Prop := treesigBindsKeyRow.holds Tryd.pinned (OpenSpec.ofChange treesigBindsKeyWrong)

/-- 'bootchainlaw05.TreesigSharesPaths': WHATEVER THE INPUT: true; the input reads as it did. -/
def treesigSharesPathsSpec : ChangeSpec := { name := "treesigSharesPaths", fn := fun _ => fun
  | [d1, d2, d3] => { results := [.lit (.bool true)], args := [d1, d2, d3] }
  | _ => none }
def treesigSharesPathsRow : OpenClaim := { program := "ytgbpgplkhifgiaadoor", sum := "17bab61cca5517b4fd1db9bb940f9a2ddcdd7d26f82b6463024ef825d7250870", func := "bootchain/bootchainlaw05.TreesigSharesPaths", spec := "treesigSharesPaths", inPlace := ["internal/bytealg.MakeNoZero"], unfollowed := true, recurses := true, named := ["bootchain/sha.start", "bootchain/sha.constants"], apart := false, laid := [("bootchain/sha.constants", laid_bootchain_sha_constants), ("bootchain/sha.start", laid_bootchain_sha_start)] }
def TreesigSharesPathsSaid : Prop := treesigSharesPathsRow.holds Tryd.pinned (OpenSpec.ofChange treesigSharesPathsSpec)

/-- ITS FALSE NEIGHBOUR: 'it returns false'. Refute it at one input. -/
def treesigSharesPathsWrong : ChangeSpec := { name := "treesigSharesPaths", fn := fun _ => fun
  | [d1, d2, d3] => { results := [.lit (.bool false)], args := [d1, d2, d3] }
  | _ => none }
def TreesigSharesPathsWrongFalsely : Prop := treesigSharesPathsRow.holds Tryd.pinned (OpenSpec.ofChange treesigSharesPathsWrong)

/-- 'bootchainlaw24.QuorumCheck': WHATEVER THE INPUT: true; the input reads as it did. -/
def quorumCheckSpec : ChangeSpec := { name := "quorumCheck", fn := fun _ => fun
  | [d1, d2, d3] => { results := [.lit (.bool true)], args := [d1, d2, d3] }
  | _ => none }
def quorumCheckRow : OpenClaim := { program := "ytgbpgplkhifgiaadoor", sum := "17bab61cca5517b4fd1db9bb940f9a2ddcdd7d26f82b6463024ef825d7250870", func := "bootchain/bootchainlaw24.QuorumCheck", spec := "quorumCheck", inPlace := ["internal/bytealg.MakeNoZero"], unfollowed := true, recurses := true, named := ["bootchain/sha.start", "bootchain/sha.constants"], apart := false, laid := [("bootchain/sha.constants", laid_bootchain_sha_constants), ("bootchain/sha.start", laid_bootchain_sha_start)] }
def QuorumCheckSaid : Prop := quorumCheckRow.holds Tryd.pinned (OpenSpec.ofChange quorumCheckSpec)

/-- ITS FALSE NEIGHBOUR: 'it returns false'. Refute it at one input. -/
def quorumCheckWrong : ChangeSpec := { name := "quorumCheck", fn := fun _ => fun
  | [d1, d2, d3] => { results := [.lit (.bool false)], args := [d1, d2, d3] }
  | _ => none }
def QuorumCheckWrongFalsely : Prop := quorumCheckRow.holds Tryd.pinned (OpenSpec.ofChange quorumCheckWrong)

/-- 'bootchainlaw24.QuorumThreshold': WHATEVER THE INPUT: true; the input reads as it did. -/
def quorumThresholdSpec : ChangeSpec := { name := "quorumThreshold", fn := fun _ => fun
  | [d1, d2, d3, d4, d5] => { results := [.lit (.bool true)], args := [d1, d2, d3, d4, d5] }
  | _ => none }
def quorumThresholdRow : OpenClaim := { program := "ytgbpgplkhifgiaadoor", sum := "17bab61cca5517b4fd1db9bb940f9a2ddcdd7d26f82b6463024ef825d7250870", func := "bootchain/bootchainlaw24.QuorumThreshold", spec := "quorumThreshold", inPlace := ["internal/bytealg.MakeNoZero"], unfollowed := true, recurses := true, named := ["bootchain/sha.start", "bootchain/sha.constants"], apart := false, laid := [("bootchain/sha.constants", laid_bootchain_sha_constants), ("bootchain/sha.start", laid_bootchain_sha_start)] }
def QuorumThresholdSaid : Prop := quorumThresholdRow.holds Tryd.pinned (OpenSpec.ofChange quorumThresholdSpec)

/-- ITS FALSE NEIGHBOUR: 'it returns false'. Refute it at one input. -/
def quorumThresholdWrong : ChangeSpec := { name := "quorumThreshold", fn := fun _ => fun
  | [d1, d2, d3, d4, d5] => { results := [.lit (.bool false)], args := [d1, d2, d3, d4, d5] }
  | _ => none }
def QuorumThresholdWrongFalsely : Prop := quorumThresholdRow.holds Tryd.pinned (OpenSpec.ofChange quorumThresholdWrong)

/-- 'bootchainlaw24.QuorumRotation': WHATEVER THE INPUT: true; the input reads as it did. -/
def quorumRotationSpec : ChangeSpec := { name := "quorumRotation", fn := fun _ => fun
  | [d1, d2, d3] => { results := [.lit (.bool true)], args := [d1, d2, d3] }
  | _ => none }
def quorumRotationRow : OpenClaim := { program := "ytgbpgplkhifgiaadoor", sum := "17bab61cca5517b4fd1db9bb940f9a2ddcdd7d26f82b6463024ef825d7250870", func := "bootchain/bootchainlaw24.QuorumRotation", spec := "quorumRotation", inPlace := ["internal/bytealg.MakeNoZero"], unfollowed := true, recurses := true, named := ["bootchain/sha.start", "bootchain/sha.constants"], apart := false, laid := [("bootchain/sha.constants", laid_bootchain_sha_constants), ("bootchain/sha.start", laid_bootchain_sha_start)] }
def QuorumRotationSaid : Prop := quorumRotationRow.holds Tryd.pinned (OpenSpec.ofChange quorumRotationSpec)

/-- ITS FALSE NEIGHBOUR: 'it returns false'. Refute it at one input. -/
def quorumRotationWrong : ChangeSpec := { name := "quorumRotation", fn := fun _ => fun
  | [d1, d2, d3] => { results := [.lit (.bool false)], args := [d1, d2, d3] }
  | _ => none }
def QuorumRotationWrongFalsely : Prop := quorumRotationRow.holds Tryd.pinned (OpenSpec.ofChange quorumRotationWrong)

/-- 'bootchainlaw24.QuorumBundle': WHATEVER THE INPUT: true; the input reads as it did. -/
def quorumBundleSpec : ChangeSpec := { name := "quorumBundle", fn := fun _ => fun
  | [d1, d2, d3, d4, d5] => { results := [.lit (.bool true)], args := [d1, d2, d3, d4, d5] }
  | _ => none }
def quorumBundleRow : OpenClaim := { program := "ytgbpgplkhifgiaadoor", sum := "17bab61cca5517b4fd1db9bb940f9a2ddcdd7d26f82b6463024ef825d7250870", func := "bootchain/bootchainlaw24.QuorumBundle", spec := "quorumBundle", inPlace := ["internal/bytealg.MakeNoZero"], unfollowed := true, recurses := true, named := ["bootchain/sha.start", "bootchain/sha.constants"], apart := false, laid := [("bootchain/sha.constants", laid_bootchain_sha_constants), ("bootchain/sha.start", laid_bootchain_sha_start)] }
def QuorumBundleSaid : Prop := quorumBundleRow.holds Tryd.pinned (OpenSpec.ofChange quorumBundleSpec)

/-- ITS FALSE NEIGHBOUR: 'it returns false'. Refute it at one input. -/
def quorumBundleWrong : ChangeSpec := { name := "quorumBundle", fn := fun _ => fun
  | [d1, d2, d3, d4, d5] => { results := [.lit (.bool false)], args := [d1, d2, d3, d4, d5] }
  | _ => none }
def QuorumBundleWrongFalsely : Prop := quorumBundleRow.holds Tryd.pinned (OpenSpec.ofChange quorumBundleWrong)

/-- 'bootchainlaw24.QuorumForged': WHATEVER THE INPUT: true; the input reads as it did. -/
def quorumForgedSpec : ChangeSpec := { name := "quorumForged", fn := fun _ => fun
  | [d1, d2, d3, d4, d5] => { results := [.lit (.bool true)], args := [d1, d2, d3, d4, d5] }
  | _ => none }
def quorumForgedRow : OpenClaim := { program := "ytgbpgplkhifgiaadoor", sum := "17bab61cca5517b4fd1db9bb940f9a2ddcdd7d26f82b6463024ef825d7250870", func := "bootchain/bootchainlaw24.QuorumForged", spec := "quorumForged", inPlace := ["internal/bytealg.MakeNoZero"], unfollowed := true, recurses := true, named := ["bootchain/sha.start", "bootchain/sha.constants"], apart := false, laid := [("bootchain/sha.constants", laid_bootchain_sha_constants), ("bootchain/sha.start", laid_bootchain_sha_start)] }
def QuorumForgedSaid : Prop := quorumForgedRow.holds Tryd.pinned (OpenSpec.ofChange quorumForgedSpec)

/-- ITS FALSE NEIGHBOUR: 'it returns false'. Refute it at one input. -/
def quorumForgedWrong : ChangeSpec := { name := "quorumForged", fn := fun _ => fun
  | [d1, d2, d3, d4, d5] => { results := [.lit (.bool false)], args := [d1, d2, d3, d4, d5] }
  | _ => none }
def QuorumForgedWrongFalsely : Prop := quorumForgedRow.holds Tryd.pinned (OpenSpec.ofChange quorumForgedWrong)

/- THE SECOND FORM. 'bulk': how many values and letters a reading holds, each counted each time it is reached (what is shared counts as often as it is met; a slice's spare places count too). A statement '..UptoSaid' is the law's where the arguments, and the package variables that the reading takes, are together of bulk at most 1048576: NARROWER than '..Said'. Prove '..Said' where nothing that the law and all that it calls make is longer than what came in: it says more and counts as full. Else prove '..UptoSaid'. A law counts once. -/
mutual
def uptoBulk {H : Type} : DataW H → Nat
  | .lit (.string bytes) => bytes.length + 1
  | .lit _ => 1
  | .nil => 1
  | .ptr d => uptoBulk d + 1
  | .slice elems spare => uptoBulkAll elems + uptoBulkAll spare + 1
  | .agg parts => uptoBulkAll parts + 1
  | .iface _ d => uptoBulk d + 1
  | .map entries => uptoBulkEntries entries + 1
  | .held _ => 1
def uptoBulkAll {H : Type} : List (DataW H) → Nat
  | [] => 0
  | d :: r => uptoBulk d + uptoBulkAll r
def uptoBulkEntries {H : Type} : List (Lit × DataW H) → Nat
  | [] => 0
  | x :: r => uptoBulkEntry x + uptoBulkEntries r
def uptoBulkEntry {H : Type} : Lit × DataW H → Nat
  | (.string bytes, d) => bytes.length + uptoBulk d + 1
  | (_, d) => uptoBulk d + 1
 end
def uptoSmall : (H : Type) → List (DataW H) → Bool := fun _ ds => decide (uptoBulkAll ds ≤ 1048576)
def OpenSpec.upto (s : _root_.Go.ChangeSpec) : _root_.Go.OpenSpec := { _root_.Go.OpenSpec.ofChange s with cond := some uptoSmall }

/-- 'bootchaintop.TopKeysOnce', WHERE WHAT IT READS IS OF BULK AT MOST 1048576: true; the input reads as it did. -/
def topKeysOnceUptoRow : OpenClaim := { program := "ytgbpgplkhifgiaadoor", sum := "17bab61cca5517b4fd1db9bb940f9a2ddcdd7d26f82b6463024ef825d7250870", func := "bootchain/bootchaintop.TopKeysOnce", spec := "topKeysOnce", inPlace := ["internal/bytealg.MakeNoZero"], unfollowed := true, recurses := true, named := ["bootchain/sha.start", "bootchain/sha.constants"], apart := false, laid := [("bootchain/sha.constants", laid_bootchain_sha_constants), ("bootchain/sha.start", laid_bootchain_sha_start)], narrowed := true }
def TopKeysOnceUptoSaid : Prop := topKeysOnceUptoRow.holds Tryd.pinned (OpenSpec.upto topKeysOnceSpec)

/-- 'bootchainlaw05.TreesigMatchesSpec', WHERE WHAT IT READS IS OF BULK AT MOST 1048576: true; the input reads as it did. -/
def treesigMatchesSpecUptoRow : OpenClaim := { program := "ytgbpgplkhifgiaadoor", sum := "17bab61cca5517b4fd1db9bb940f9a2ddcdd7d26f82b6463024ef825d7250870", func := "bootchain/bootchainlaw05.TreesigMatchesSpec", spec := "treesigMatchesSpec", inPlace := ["internal/bytealg.MakeNoZero"], unfollowed := true, recurses := true, named := ["bootchain/sha.start", "bootchain/sha.constants"], apart := false, laid := [("bootchain/sha.constants", laid_bootchain_sha_constants), ("bootchain/sha.start", laid_bootchain_sha_start)], narrowed := true }
def TreesigMatchesSpecUptoSaid : Prop := treesigMatchesSpecUptoRow.holds Tryd.pinned (OpenSpec.upto treesigMatchesSpecSpec)

/-- 'bootchainlaw05.TreesigVerifyMatchesSpec', WHERE WHAT IT READS IS OF BULK AT MOST 1048576: true; the input reads as it did. -/
def treesigVerifyMatchesSpecUptoRow : OpenClaim := { program := "ytgbpgplkhifgiaadoor", sum := "17bab61cca5517b4fd1db9bb940f9a2ddcdd7d26f82b6463024ef825d7250870", func := "bootchain/bootchainlaw05.TreesigVerifyMatchesSpec", spec := "treesigVerifyMatchesSpec", inPlace := ["internal/bytealg.MakeNoZero"], unfollowed := true, recurses := true, named := ["bootchain/sha.start", "bootchain/sha.constants"], apart := false, laid := [("bootchain/sha.constants", laid_bootchain_sha_constants), ("bootchain/sha.start", laid_bootchain_sha_start)], narrowed := true }
def TreesigVerifyMatchesSpecUptoSaid : Prop := treesigVerifyMatchesSpecUptoRow.holds Tryd.pinned (OpenSpec.upto treesigVerifyMatchesSpecSpec)

/-- 'bootchainlaw05.TreesigVerifiesOwn', WHERE WHAT IT READS IS OF BULK AT MOST 1048576: true; the input reads as it did. -/
def treesigVerifiesOwnUptoRow : OpenClaim := { program := "ytgbpgplkhifgiaadoor", sum := "17bab61cca5517b4fd1db9bb940f9a2ddcdd7d26f82b6463024ef825d7250870", func := "bootchain/bootchainlaw05.TreesigVerifiesOwn", spec := "treesigVerifiesOwn", inPlace := ["internal/bytealg.MakeNoZero"], unfollowed := true, recurses := true, named := ["bootchain/sha.start", "bootchain/sha.constants"], apart := false, laid := [("bootchain/sha.constants", laid_bootchain_sha_constants), ("bootchain/sha.start", laid_bootchain_sha_start)], narrowed := true }
def TreesigVerifiesOwnUptoSaid : Prop := treesigVerifiesOwnUptoRow.holds Tryd.pinned (OpenSpec.upto treesigVerifiesOwnSpec)

/-- 'bootchainlaw05.TreesigRejectsMalformed', WHERE WHAT IT READS IS OF BULK AT MOST 1048576: true; the input reads as it did. -/
def treesigRejectsMalformedUptoRow : OpenClaim := { program := "ytgbpgplkhifgiaadoor", sum := "17bab61cca5517b4fd1db9bb940f9a2ddcdd7d26f82b6463024ef825d7250870", func := "bootchain/bootchainlaw05.TreesigRejectsMalformed", spec := "treesigRejectsMalformed", inPlace := ["internal/bytealg.MakeNoZero"], unfollowed := true, recurses := true, named := ["bootchain/sha.start", "bootchain/sha.constants"], apart := false, laid := [("bootchain/sha.constants", laid_bootchain_sha_constants), ("bootchain/sha.start", laid_bootchain_sha_start)], narrowed := true }
def TreesigRejectsMalformedUptoSaid : Prop := treesigRejectsMalformedUptoRow.holds Tryd.pinned (OpenSpec.upto treesigRejectsMalformedSpec)

/-- 'bootchainlaw05.TreesigBindsKey', WHERE WHAT IT READS IS OF BULK AT MOST 1048576: true; the input reads as it did. -/
def treesigBindsKeyUptoRow : OpenClaim := { program := "ytgbpgplkhifgiaadoor", sum := "17bab61cca5517b4fd1db9bb940f9a2ddcdd7d26f82b6463024ef825d7250870", func := "bootchain/bootchainlaw05.TreesigBindsKey", spec := "treesigBindsKey", inPlace := ["internal/bytealg.MakeNoZero"], unfollowed := true, recurses := true, named := ["bootchain/sha.start", "bootchain/sha.constants"], apart := false, laid := [("bootchain/sha.constants", laid_bootchain_sha_constants), ("bootchain/sha.start", laid_bootchain_sha_start)], narrowed := true }
def TreesigBindsKeyUptoSaid : Prop := treesigBindsKeyUptoRow.holds Tryd.pinned (OpenSpec.upto treesigBindsKeySpec)

/-- 'bootchainlaw05.TreesigSharesPaths', WHERE WHAT IT READS IS OF BULK AT MOST 1048576: true; the input reads as it did. -/
def treesigSharesPathsUptoRow : OpenClaim := { program := "ytgbpgplkhifgiaadoor", sum := "17bab61cca5517b4fd1db9bb940f9a2ddcdd7d26f82b6463024ef825d7250870", func := "bootchain/bootchainlaw05.TreesigSharesPaths", spec := "treesigSharesPaths", inPlace := ["internal/bytealg.MakeNoZero"], unfollowed := true, recurses := true, named := ["bootchain/sha.start", "bootchain/sha.constants"], apart := false, laid := [("bootchain/sha.constants", laid_bootchain_sha_constants), ("bootchain/sha.start", laid_bootchain_sha_start)], narrowed := true }
def TreesigSharesPathsUptoSaid : Prop := treesigSharesPathsUptoRow.holds Tryd.pinned (OpenSpec.upto treesigSharesPathsSpec)

/-- 'bootchainlaw24.QuorumCheck', WHERE WHAT IT READS IS OF BULK AT MOST 1048576: true; the input reads as it did. -/
def quorumCheckUptoRow : OpenClaim := { program := "ytgbpgplkhifgiaadoor", sum := "17bab61cca5517b4fd1db9bb940f9a2ddcdd7d26f82b6463024ef825d7250870", func := "bootchain/bootchainlaw24.QuorumCheck", spec := "quorumCheck", inPlace := ["internal/bytealg.MakeNoZero"], unfollowed := true, recurses := true, named := ["bootchain/sha.start", "bootchain/sha.constants"], apart := false, laid := [("bootchain/sha.constants", laid_bootchain_sha_constants), ("bootchain/sha.start", laid_bootchain_sha_start)], narrowed := true }
def QuorumCheckUptoSaid : Prop := quorumCheckUptoRow.holds Tryd.pinned (OpenSpec.upto quorumCheckSpec)

/-- 'bootchainlaw24.QuorumThreshold', WHERE WHAT IT READS IS OF BULK AT MOST 1048576: true; the input reads as it did. -/
def quorumThresholdUptoRow : OpenClaim := { program := "ytgbpgplkhifgiaadoor", sum := "17bab61cca5517b4fd1db9bb940f9a2ddcdd7d26f82b6463024ef825d7250870", func := "bootchain/bootchainlaw24.QuorumThreshold", spec := "quorumThreshold", inPlace := ["internal/bytealg.MakeNoZero"], unfollowed := true, recurses := true, named := ["bootchain/sha.start", "bootchain/sha.constants"], apart := false, laid := [("bootchain/sha.constants", laid_bootchain_sha_constants), ("bootchain/sha.start", laid_bootchain_sha_start)], narrowed := true }
def QuorumThresholdUptoSaid : Prop := quorumThresholdUptoRow.holds Tryd.pinned (OpenSpec.upto quorumThresholdSpec)

/-- 'bootchainlaw24.QuorumRotation', WHERE WHAT IT READS IS OF BULK AT MOST 1048576: true; the input reads as it did. -/
def quorumRotationUptoRow : OpenClaim := { program := "ytgbpgplkhifgiaadoor", sum := "17bab61cca5517b4fd1db9bb940f9a2ddcdd7d26f82b6463024ef825d7250870", func := "bootchain/bootchainlaw24.QuorumRotation", spec := "quorumRotation", inPlace := ["internal/bytealg.MakeNoZero"], unfollowed := true, recurses := true, named := ["bootchain/sha.start", "bootchain/sha.constants"], apart := false, laid := [("bootchain/sha.constants", laid_bootchain_sha_constants), ("bootchain/sha.start", laid_bootchain_sha_start)], narrowed := true }
def QuorumRotationUptoSaid : Prop := quorumRotationUptoRow.holds Tryd.pinned (OpenSpec.upto quorumRotationSpec)

/-- 'bootchainlaw24.QuorumBundle', WHERE WHAT IT READS IS OF BULK AT MOST 1048576: true; the input reads as it did. -/
def quorumBundleUptoRow : OpenClaim := { program := "ytgbpgplkhifgiaadoor", sum := "17bab61cca5517b4fd1db9bb940f9a2ddcdd7d26f82b6463024ef825d7250870", func := "bootchain/bootchainlaw24.QuorumBundle", spec := "quorumBundle", inPlace := ["internal/bytealg.MakeNoZero"], unfollowed := true, recurses := true, named := ["bootchain/sha.start", "bootchain/sha.constants"], apart := false, laid := [("bootchain/sha.constants", laid_bootchain_sha_constants), ("bootchain/sha.start", laid_bootchain_sha_start)], narrowed := true }
def QuorumBundleUptoSaid : Prop := quorumBundleUptoRow.holds Tryd.pinned (OpenSpec.upto quorumBundleSpec)

/-- 'bootchainlaw24.QuorumForged', WHERE WHAT IT READS IS OF BULK AT MOST 1048576: true; the input reads as it did. -/
def quorumForgedUptoRow : OpenClaim := { program := "ytgbpgplkhifgiaadoor", sum := "17bab61cca5517b4fd1db9bb940f9a2ddcdd7d26f82b6463024ef825d7250870", func := "bootchain/bootchainlaw24.QuorumForged", spec := "quorumForged", inPlace := ["internal/bytealg.MakeNoZero"], unfollowed := true, recurses := true, named := ["bootchain/sha.start", "bootchain/sha.constants"], apart := false, laid := [("bootchain/sha.constants", laid_bootchain_sha_constants), ("bootchain/sha.start", laid_bootchain_sha_start)], narrowed := true }
def QuorumForgedUptoSaid : Prop := quorumForgedUptoRow.holds Tryd.pinned (OpenSpec.upto quorumForgedSpec)

end Rows
end Go.Proofs.YtgbpgplkhifgiaaDoor
