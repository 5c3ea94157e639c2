/-
  NARROWER THAN 'FOR EVERY INPUT', by the rows' own cells (each row's printed sentence says how): RexLaws: loops · RexFirst: loops · ProgSame: loops.
  DERIVED. THE GIVEN ROWS OF THIS SEAT. 16 by the template 'for every input the law returns true; each argument reads behind the call as it read before'; 0 by the template 'total and deterministic' (their statements: YteinbjopclblaaaTotals.lean).
  GIVEN WITH THE SEED: the statements are not yours to turn. If you find one false, say at which input.
  Laid BY PROGRAM, IN A SANDBOX (cutbox-rows.mjs): the forced cells as the released guide's own fill.sh prints them over the translation 6e829bbcbf39eff4… (all of the seat's roots in one cut). By AI agents, Wed Nov 11 2026. No macro, syntax, notation, axiom, sorry.
-/
import Derived.Test.YteinbjopclblaaaChecked
import GoSem.Claim
import GoSem.ClaimJoined
import GoSem.ClaimMapViews
import Derived.JoinedTies
import Derived.KernelRfl
namespace Go.Proofs.Yteinbjopclblaaa
/- THE CELL 'sum', in the pinned program and in every row, IS THE sha256 OF THE DUMP (.gsa) THAT YteinbjopclblaaaProg.lean LOADS. Nothing in Lean hashes anything: it is a label: what it is worth is what the hold of that sum in a sandbox is worth. -/
noncomputable def Try.pinned : Pinned := { name := "yteinbjopclblaaa", sum := "6e829bbcbf39eff4ec2a33f65f4c5c4c96f26544bb5eac73935cda903e7505d4", checked := Try.checked }
namespace Rows
def none {H : Type} : Left H := { results := [], args := [] }

/-- 'wickkeep.HeadGets': WHATEVER THE INPUT: true; the input reads as it did. -/
def headGetsSpec : ChangeSpec := { name := "headGets", fn := fun _ => fun
  | [d] => { results := [.lit (.bool true)], args := [d] }
  | _ => none }
def headGetsRow : OpenClaim := { program := "yteinbjopclblaaa", sum := "6e829bbcbf39eff4ec2a33f65f4c5c4c96f26544bb5eac73935cda903e7505d4", func := "gatewicket/wickkeep.HeadGets", spec := "headGets", apart := false }
def HeadGetsSaid : Prop := headGetsRow.holds Try.pinned (OpenSpec.ofChange headGetsSpec)

/-- ITS FALSE NEIGHBOUR: 'it returns false'. Refute it at one input. -/
def headGetsWrong : ChangeSpec := { name := "headGets", fn := fun _ => fun
  | [d] => { results := [.lit (.bool false)], args := [d] }
  | _ => none }
def HeadGetsWrongFalsely : Prop := headGetsRow.holds Try.pinned (OpenSpec.ofChange headGetsWrong)

/-- 'wickkeep.OctetUtf8': WHATEVER THE INPUT: true; the input reads as it did. -/
def octetUtf8Spec : ChangeSpec := { name := "octetUtf8", fn := fun _ => fun
  | [d1, d2] => { results := [.lit (.bool true)], args := [d1, d2] }
  | _ => none }
def octetUtf8Row : OpenClaim := { program := "yteinbjopclblaaa", sum := "6e829bbcbf39eff4ec2a33f65f4c5c4c96f26544bb5eac73935cda903e7505d4", func := "gatewicket/wickkeep.OctetUtf8", spec := "octetUtf8", apart := false }
def OctetUtf8Said : Prop := octetUtf8Row.holds Try.pinned (OpenSpec.ofChange octetUtf8Spec)

/-- ITS FALSE NEIGHBOUR: 'it returns false'. Refute it at one input. -/
def octetUtf8Wrong : ChangeSpec := { name := "octetUtf8", fn := fun _ => fun
  | [d1, d2] => { results := [.lit (.bool false)], args := [d1, d2] }
  | _ => none }
def OctetUtf8WrongFalsely : Prop := octetUtf8Row.holds Try.pinned (OpenSpec.ofChange octetUtf8Wrong)

/-- 'wickkeep.OctetAgain': WHATEVER THE INPUT: true; the input reads as it did. -/
def octetAgainSpec : ChangeSpec := { name := "octetAgain", fn := fun _ => fun
  | [d1, d2] => { results := [.lit (.bool true)], args := [d1, d2] }
  | _ => none }
def octetAgainRow : OpenClaim := { program := "yteinbjopclblaaa", sum := "6e829bbcbf39eff4ec2a33f65f4c5c4c96f26544bb5eac73935cda903e7505d4", func := "gatewicket/wickkeep.OctetAgain", spec := "octetAgain", inPlace := ["internal/bytealg.IndexByteString"], apart := false }
def OctetAgainSaid : Prop := octetAgainRow.holds Try.pinned (OpenSpec.ofChange octetAgainSpec)

/-- ITS FALSE NEIGHBOUR: 'it returns false'. Refute it at one input. -/
def octetAgainWrong : ChangeSpec := { name := "octetAgain", fn := fun _ => fun
  | [d1, d2] => { results := [.lit (.bool false)], args := [d1, d2] }
  | _ => none }
def OctetAgainWrongFalsely : Prop := octetAgainRow.holds Try.pinned (OpenSpec.ofChange octetAgainWrong)

/-- 'wickkeep.FrameCuts': WHATEVER THE INPUT: true; the input reads as it did. -/
def frameCutsSpec : ChangeSpec := { name := "frameCuts", fn := fun _ => fun
  | [d1, d2, d3, d4] => { results := [.lit (.bool true)], args := [d1, d2, d3, d4] }
  | _ => none }
def frameCutsRow : OpenClaim := { program := "yteinbjopclblaaa", sum := "6e829bbcbf39eff4ec2a33f65f4c5c4c96f26544bb5eac73935cda903e7505d4", func := "gatewicket/wickkeep.FrameCuts", spec := "frameCuts", apart := false }
def FrameCutsSaid : Prop := frameCutsRow.holds Try.pinned (OpenSpec.ofChange frameCutsSpec)

/-- ITS FALSE NEIGHBOUR: 'it returns false'. Refute it at one input. -/
def frameCutsWrong : ChangeSpec := { name := "frameCuts", fn := fun _ => fun
  | [d1, d2, d3, d4] => { results := [.lit (.bool false)], args := [d1, d2, d3, d4] }
  | _ => none }
def FrameCutsWrongFalsely : Prop := frameCutsRow.holds Try.pinned (OpenSpec.ofChange frameCutsWrong)

/-- 'wickkeep.FrameStrict': WHATEVER THE INPUT: true; the input reads as it did. -/
def frameStrictSpec : ChangeSpec := { name := "frameStrict", fn := fun _ => fun
  | [d1, d2, d3] => { results := [.lit (.bool true)], args := [d1, d2, d3] }
  | _ => none }
def frameStrictRow : OpenClaim := { program := "yteinbjopclblaaa", sum := "6e829bbcbf39eff4ec2a33f65f4c5c4c96f26544bb5eac73935cda903e7505d4", func := "gatewicket/wickkeep.FrameStrict", spec := "frameStrict", unfollowed := true, recurses := true, apart := false }
def FrameStrictSaid : Prop := frameStrictRow.holds Try.pinned (OpenSpec.ofChange frameStrictSpec)

/-- ITS FALSE NEIGHBOUR: 'it returns false'. Refute it at one input. -/
def frameStrictWrong : ChangeSpec := { name := "frameStrict", fn := fun _ => fun
  | [d1, d2, d3] => { results := [.lit (.bool false)], args := [d1, d2, d3] }
  | _ => none }
def FrameStrictWrongFalsely : Prop := frameStrictRow.holds Try.pinned (OpenSpec.ofChange frameStrictWrong)

/-- 'wickkeep.AuditOne': WHATEVER THE INPUT: true; the input reads as it did. -/
def auditOneSpec : ChangeSpec := { name := "auditOne", fn := fun _ => fun
  | [d1, d2] => { results := [.lit (.bool true)], args := [d1, d2] }
  | _ => none }
def auditOneRow : OpenClaim := { program := "yteinbjopclblaaa", sum := "6e829bbcbf39eff4ec2a33f65f4c5c4c96f26544bb5eac73935cda903e7505d4", func := "gatewicket/wickkeep.AuditOne", spec := "auditOne", unfollowed := true, recurses := true, apart := false }
def AuditOneSaid : Prop := auditOneRow.holds Try.pinned (OpenSpec.ofChange auditOneSpec)

/-- ITS FALSE NEIGHBOUR: 'it returns false'. Refute it at one input. -/
def auditOneWrong : ChangeSpec := { name := "auditOne", fn := fun _ => fun
  | [d1, d2] => { results := [.lit (.bool false)], args := [d1, d2] }
  | _ => none }
def AuditOneWrongFalsely : Prop := auditOneRow.holds Try.pinned (OpenSpec.ofChange auditOneWrong)

/-- 'wickkeep.OctetFinds': WHATEVER THE INPUT: true; the input reads as it did. -/
def octetFindsSpec : ChangeSpec := { name := "octetFinds", fn := fun _ => fun
  | [d1, d2, d3, d4] => { results := [.lit (.bool true)], args := [d1, d2, d3, d4] }
  | _ => none }
def octetFindsRow : OpenClaim := { program := "yteinbjopclblaaa", sum := "6e829bbcbf39eff4ec2a33f65f4c5c4c96f26544bb5eac73935cda903e7505d4", func := "gatewicket/wickkeep.OctetFinds", spec := "octetFinds", inPlace := ["internal/bytealg.IndexByteString", "internal/bytealg.IndexString"], named := ["internal/bytealg.MaxLen"], apart := false }
def OctetFindsSaid : Prop := octetFindsRow.holds Try.pinned (OpenSpec.ofChange octetFindsSpec)

/-- ITS FALSE NEIGHBOUR: 'it returns false'. Refute it at one input. -/
def octetFindsWrong : ChangeSpec := { name := "octetFinds", fn := fun _ => fun
  | [d1, d2, d3, d4] => { results := [.lit (.bool false)], args := [d1, d2, d3, d4] }
  | _ => none }
def OctetFindsWrongFalsely : Prop := octetFindsRow.holds Try.pinned (OpenSpec.ofChange octetFindsWrong)

/-- 'wickkeep.RexLaws': WHATEVER THE INPUT: true; the input reads as it did. -/
def rexLawsSpec : ChangeSpec := { name := "rexLaws", fn := fun _ => fun
  | [d1, d2, d3, d4] => { results := [.lit (.bool true)], args := [d1, d2, d3, d4] }
  | _ => none }
def rexLawsRow : OpenClaim := { program := "yteinbjopclblaaa", sum := "6e829bbcbf39eff4ec2a33f65f4c5c4c96f26544bb5eac73935cda903e7505d4", func := "gatewicket/wickkeep.RexLaws", spec := "rexLaws", unfollowed := true, recurses := true, loops := true, apart := false }
def RexLawsSaid : Prop := rexLawsRow.holds Try.pinned (OpenSpec.ofChange rexLawsSpec)

/-- ITS FALSE NEIGHBOUR: 'it returns false'. Refute it at one input. -/
def rexLawsWrong : ChangeSpec := { name := "rexLaws", fn := fun _ => fun
  | [d1, d2, d3, d4] => { results := [.lit (.bool false)], args := [d1, d2, d3, d4] }
  | _ => none }
def RexLawsWrongFalsely : Prop := rexLawsRow.holds Try.pinned (OpenSpec.ofChange rexLawsWrong)

/-- 'wickkeep.RexFirst': WHATEVER THE INPUT: true; the input reads as it did. -/
def rexFirstSpec : ChangeSpec := { name := "rexFirst", fn := fun _ => fun
  | [d1, d2] => { results := [.lit (.bool true)], args := [d1, d2] }
  | _ => none }
def rexFirstRow : OpenClaim := { program := "yteinbjopclblaaa", sum := "6e829bbcbf39eff4ec2a33f65f4c5c4c96f26544bb5eac73935cda903e7505d4", func := "gatewicket/wickkeep.RexFirst", spec := "rexFirst", unfollowed := true, recurses := true, loops := true, apart := false }
def RexFirstSaid : Prop := rexFirstRow.holds Try.pinned (OpenSpec.ofChange rexFirstSpec)

/-- ITS FALSE NEIGHBOUR: 'it returns false'. Refute it at one input. -/
def rexFirstWrong : ChangeSpec := { name := "rexFirst", fn := fun _ => fun
  | [d1, d2] => { results := [.lit (.bool false)], args := [d1, d2] }
  | _ => none }
def RexFirstWrongFalsely : Prop := rexFirstRow.holds Try.pinned (OpenSpec.ofChange rexFirstWrong)

/-- 'wickkeep.CodingOne': WHATEVER THE INPUT: true; the input reads as it did. -/
def codingOneSpec : ChangeSpec := { name := "codingOne", fn := fun _ => fun
  | [d] => { results := [.lit (.bool true)], args := [d] }
  | _ => none }
def codingOneRow : OpenClaim := { program := "yteinbjopclblaaa", sum := "6e829bbcbf39eff4ec2a33f65f4c5c4c96f26544bb5eac73935cda903e7505d4", func := "gatewicket/wickkeep.CodingOne", spec := "codingOne", inPlace := ["internal/bytealg.IndexByteString"], apart := false }
def CodingOneSaid : Prop := codingOneRow.holds Try.pinned (OpenSpec.ofChange codingOneSpec)

/-- ITS FALSE NEIGHBOUR: 'it returns false'. Refute it at one input. -/
def codingOneWrong : ChangeSpec := { name := "codingOne", fn := fun _ => fun
  | [d] => { results := [.lit (.bool false)], args := [d] }
  | _ => none }
def CodingOneWrongFalsely : Prop := codingOneRow.holds Try.pinned (OpenSpec.ofChange codingOneWrong)

/-- 'wickkeep.AuditBack': WHATEVER THE INPUT: true; the input reads as it did. -/
def auditBackSpec : ChangeSpec := { name := "auditBack", fn := fun _ => fun
  | [d] => { results := [.lit (.bool true)], args := [d] }
  | _ => none }
def auditBackRow : OpenClaim := { program := "yteinbjopclblaaa", sum := "6e829bbcbf39eff4ec2a33f65f4c5c4c96f26544bb5eac73935cda903e7505d4", func := "gatewicket/wickkeep.AuditBack", spec := "auditBack", unfollowed := true, recurses := true, apart := false }
def AuditBackSaid : Prop := auditBackRow.holds Try.pinned (OpenSpec.ofChange auditBackSpec)

/-- ITS FALSE NEIGHBOUR: 'it returns false'. Refute it at one input. -/
def auditBackWrong : ChangeSpec := { name := "auditBack", fn := fun _ => fun
  | [d] => { results := [.lit (.bool false)], args := [d] }
  | _ => none }
def AuditBackWrongFalsely : Prop := auditBackRow.holds Try.pinned (OpenSpec.ofChange auditBackWrong)

/-- 'wickkeep.CodingBack': WHATEVER THE INPUT: true; the input reads as it did. -/
def codingBackSpec : ChangeSpec := { name := "codingBack", fn := fun _ => fun
  | [d] => { results := [.lit (.bool true)], args := [d] }
  | _ => none }
def codingBackRow : OpenClaim := { program := "yteinbjopclblaaa", sum := "6e829bbcbf39eff4ec2a33f65f4c5c4c96f26544bb5eac73935cda903e7505d4", func := "gatewicket/wickkeep.CodingBack", spec := "codingBack", inPlace := ["internal/bytealg.IndexByteString"], apart := false }
def CodingBackSaid : Prop := codingBackRow.holds Try.pinned (OpenSpec.ofChange codingBackSpec)

/-- ITS FALSE NEIGHBOUR: 'it returns false'. Refute it at one input. -/
def codingBackWrong : ChangeSpec := { name := "codingBack", fn := fun _ => fun
  | [d] => { results := [.lit (.bool false)], args := [d] }
  | _ => none }
def CodingBackWrongFalsely : Prop := codingBackRow.holds Try.pinned (OpenSpec.ofChange codingBackWrong)

/-- 'wickkeep.OctetLower': WHATEVER THE INPUT: true; the input reads as it did. -/
def octetLowerSpec : ChangeSpec := { name := "octetLower", fn := fun _ => fun
  | [d] => { results := [.lit (.bool true)], args := [d] }
  | _ => none }
def octetLowerRow : OpenClaim := { program := "yteinbjopclblaaa", sum := "6e829bbcbf39eff4ec2a33f65f4c5c4c96f26544bb5eac73935cda903e7505d4", func := "gatewicket/wickkeep.OctetLower", spec := "octetLower", inPlace := ["internal/bytealg.IndexByteString", "internal/bytealg.IndexString"], named := ["internal/bytealg.MaxLen"], apart := false }
def OctetLowerSaid : Prop := octetLowerRow.holds Try.pinned (OpenSpec.ofChange octetLowerSpec)

/-- ITS FALSE NEIGHBOUR: 'it returns false'. Refute it at one input. -/
def octetLowerWrong : ChangeSpec := { name := "octetLower", fn := fun _ => fun
  | [d] => { results := [.lit (.bool false)], args := [d] }
  | _ => none }
def OctetLowerWrongFalsely : Prop := octetLowerRow.holds Try.pinned (OpenSpec.ofChange octetLowerWrong)

/-- 'wickkeep.CodingJoins': WHATEVER THE INPUT: true; the input reads as it did. -/
def codingJoinsSpec : ChangeSpec := { name := "codingJoins", fn := fun _ => fun
  | [d1, d2] => { results := [.lit (.bool true)], args := [d1, d2] }
  | _ => none }
def codingJoinsRow : OpenClaim := { program := "yteinbjopclblaaa", sum := "6e829bbcbf39eff4ec2a33f65f4c5c4c96f26544bb5eac73935cda903e7505d4", func := "gatewicket/wickkeep.CodingJoins", spec := "codingJoins", inPlace := ["internal/bytealg.IndexByteString"], apart := false }
def CodingJoinsSaid : Prop := codingJoinsRow.holds Try.pinned (OpenSpec.ofChange codingJoinsSpec)

/-- ITS FALSE NEIGHBOUR: 'it returns false'. Refute it at one input. -/
def codingJoinsWrong : ChangeSpec := { name := "codingJoins", fn := fun _ => fun
  | [d1, d2] => { results := [.lit (.bool false)], args := [d1, d2] }
  | _ => none }
def CodingJoinsWrongFalsely : Prop := codingJoinsRow.holds Try.pinned (OpenSpec.ofChange codingJoinsWrong)

/-- 'wickkeep.CleanAgain': WHATEVER THE INPUT: true; the input reads as it did. -/
def cleanAgainSpec : ChangeSpec := { name := "cleanAgain", fn := fun _ => fun
  | [d] => { results := [.lit (.bool true)], args := [d] }
  | _ => none }
def cleanAgainRow : OpenClaim := { program := "yteinbjopclblaaa", sum := "6e829bbcbf39eff4ec2a33f65f4c5c4c96f26544bb5eac73935cda903e7505d4", func := "gatewicket/wickkeep.CleanAgain", spec := "cleanAgain", inPlace := ["internal/bytealg.IndexByteString", "internal/bytealg.IndexString"], named := ["internal/bytealg.MaxLen"], apart := false }
def CleanAgainSaid : Prop := cleanAgainRow.holds Try.pinned (OpenSpec.ofChange cleanAgainSpec)

/-- ITS FALSE NEIGHBOUR: 'it returns false'. Refute it at one input. -/
def cleanAgainWrong : ChangeSpec := { name := "cleanAgain", fn := fun _ => fun
  | [d] => { results := [.lit (.bool false)], args := [d] }
  | _ => none }
def CleanAgainWrongFalsely : Prop := cleanAgainRow.holds Try.pinned (OpenSpec.ofChange cleanAgainWrong)

/-- 'wickkeep.ProgSame': WHATEVER THE INPUT: true; the input reads as it did. -/
def progSameSpec : ChangeSpec := { name := "progSame", fn := fun _ => fun
  | [d1, d2] => { results := [.lit (.bool true)], args := [d1, d2] }
  | _ => none }
def progSameRow : OpenClaim := { program := "yteinbjopclblaaa", sum := "6e829bbcbf39eff4ec2a33f65f4c5c4c96f26544bb5eac73935cda903e7505d4", func := "gatewicket/wickkeep.ProgSame", spec := "progSame", unfollowed := true, recurses := true, loops := true, apart := false }
def ProgSameSaid : Prop := progSameRow.holds Try.pinned (OpenSpec.ofChange progSameSpec)

/-- ITS FALSE NEIGHBOUR: 'it returns false'. Refute it at one input. -/
def progSameWrong : ChangeSpec := { name := "progSame", fn := fun _ => fun
  | [d1, d2] => { results := [.lit (.bool false)], args := [d1, d2] }
  | _ => none }
def ProgSameWrongFalsely : Prop := progSameRow.holds Try.pinned (OpenSpec.ofChange progSameWrong)

/- THE SECOND FORM. 'bulk': how many values and letters a reading holds, each counted each time it is reached (what is shared counts as often as it is met; a slice's spare places count too). A statement '..UptoSaid' is the law's where the arguments, and the package variables that the reading takes, are together of bulk at most 1048576: NARROWER than '..Said'. Prove '..Said' where nothing that the law and all that it calls make is longer than what came in: it says more and counts as full. Else prove '..UptoSaid'. A law counts once. -/
mutual
def uptoBulk {H : Type} : DataW H → Nat
  | .lit (.string bytes) => bytes.length + 1
  | .lit _ => 1
  | .nil => 1
  | .ptr d => uptoBulk d + 1
  | .slice elems spare => uptoBulkAll elems + uptoBulkAll spare + 1
  | .agg parts => uptoBulkAll parts + 1
  | .iface _ d => uptoBulk d + 1
  | .map entries => uptoBulkEntries entries + 1
  | .held _ => 1
def uptoBulkAll {H : Type} : List (DataW H) → Nat
  | [] => 0
  | d :: r => uptoBulk d + uptoBulkAll r
def uptoBulkEntries {H : Type} : List (Lit × DataW H) → Nat
  | [] => 0
  | x :: r => uptoBulkEntry x + uptoBulkEntries r
def uptoBulkEntry {H : Type} : Lit × DataW H → Nat
  | (.string bytes, d) => bytes.length + uptoBulk d + 1
  | (_, d) => uptoBulk d + 1
 end
def uptoSmall : (H : Type) → List (DataW H) → Bool := fun _ ds => decide (uptoBulkAll ds ≤ 1048576)
def OpenSpec.upto (s : _root_.Go.ChangeSpec) : _root_.Go.OpenSpec := { _root_.Go.OpenSpec.ofChange s with cond := some uptoSmall }

/-- 'wickkeep.HeadGets', WHERE WHAT IT READS IS OF BULK AT MOST 1048576: true; the input reads as it did. -/
def headGetsUptoRow : OpenClaim := { program := "yteinbjopclblaaa", sum := "6e829bbcbf39eff4ec2a33f65f4c5c4c96f26544bb5eac73935cda903e7505d4", func := "gatewicket/wickkeep.HeadGets", spec := "headGets", apart := false, narrowed := true }
def HeadGetsUptoSaid : Prop := headGetsUptoRow.holds Try.pinned (OpenSpec.upto headGetsSpec)

/-- 'wickkeep.OctetUtf8', WHERE WHAT IT READS IS OF BULK AT MOST 1048576: true; the input reads as it did. -/
def octetUtf8UptoRow : OpenClaim := { program := "yteinbjopclblaaa", sum := "6e829bbcbf39eff4ec2a33f65f4c5c4c96f26544bb5eac73935cda903e7505d4", func := "gatewicket/wickkeep.OctetUtf8", spec := "octetUtf8", apart := false, narrowed := true }
def OctetUtf8UptoSaid : Prop := octetUtf8UptoRow.holds Try.pinned (OpenSpec.upto octetUtf8Spec)

/-- 'wickkeep.OctetAgain', WHERE WHAT IT READS IS OF BULK AT MOST 1048576: true; the input reads as it did. -/
def octetAgainUptoRow : OpenClaim := { program := "yteinbjopclblaaa", sum := "6e829bbcbf39eff4ec2a33f65f4c5c4c96f26544bb5eac73935cda903e7505d4", func := "gatewicket/wickkeep.OctetAgain", spec := "octetAgain", inPlace := ["internal/bytealg.IndexByteString"], apart := false, narrowed := true }
def OctetAgainUptoSaid : Prop := octetAgainUptoRow.holds Try.pinned (OpenSpec.upto octetAgainSpec)

/-- 'wickkeep.FrameCuts', WHERE WHAT IT READS IS OF BULK AT MOST 1048576: true; the input reads as it did. -/
def frameCutsUptoRow : OpenClaim := { program := "yteinbjopclblaaa", sum := "6e829bbcbf39eff4ec2a33f65f4c5c4c96f26544bb5eac73935cda903e7505d4", func := "gatewicket/wickkeep.FrameCuts", spec := "frameCuts", apart := false, narrowed := true }
def FrameCutsUptoSaid : Prop := frameCutsUptoRow.holds Try.pinned (OpenSpec.upto frameCutsSpec)

/-- 'wickkeep.FrameStrict', WHERE WHAT IT READS IS OF BULK AT MOST 1048576: true; the input reads as it did. -/
def frameStrictUptoRow : OpenClaim := { program := "yteinbjopclblaaa", sum := "6e829bbcbf39eff4ec2a33f65f4c5c4c96f26544bb5eac73935cda903e7505d4", func := "gatewicket/wickkeep.FrameStrict", spec := "frameStrict", unfollowed := true, recurses := true, apart := false, narrowed := true }
def FrameStrictUptoSaid : Prop := frameStrictUptoRow.holds Try.pinned (OpenSpec.upto frameStrictSpec)

/-- 'wickkeep.AuditOne', WHERE WHAT IT READS IS OF BULK AT MOST 1048576: true; the input reads as it did. -/
def auditOneUptoRow : OpenClaim := { program := "yteinbjopclblaaa", sum := "6e829bbcbf39eff4ec2a33f65f4c5c4c96f26544bb5eac73935cda903e7505d4", func := "gatewicket/wickkeep.AuditOne", spec := "auditOne", unfollowed := true, recurses := true, apart := false, narrowed := true }
def AuditOneUptoSaid : Prop := auditOneUptoRow.holds Try.pinned (OpenSpec.upto auditOneSpec)

/-- 'wickkeep.OctetFinds', WHERE WHAT IT READS IS OF BULK AT MOST 1048576: true; the input reads as it did. -/
def octetFindsUptoRow : OpenClaim := { program := "yteinbjopclblaaa", sum := "6e829bbcbf39eff4ec2a33f65f4c5c4c96f26544bb5eac73935cda903e7505d4", func := "gatewicket/wickkeep.OctetFinds", spec := "octetFinds", inPlace := ["internal/bytealg.IndexByteString", "internal/bytealg.IndexString"], named := ["internal/bytealg.MaxLen"], apart := false, narrowed := true }
def OctetFindsUptoSaid : Prop := octetFindsUptoRow.holds Try.pinned (OpenSpec.upto octetFindsSpec)

/-- 'wickkeep.RexLaws', WHERE WHAT IT READS IS OF BULK AT MOST 1048576: true; the input reads as it did. -/
def rexLawsUptoRow : OpenClaim := { program := "yteinbjopclblaaa", sum := "6e829bbcbf39eff4ec2a33f65f4c5c4c96f26544bb5eac73935cda903e7505d4", func := "gatewicket/wickkeep.RexLaws", spec := "rexLaws", unfollowed := true, recurses := true, loops := true, apart := false, narrowed := true }
def RexLawsUptoSaid : Prop := rexLawsUptoRow.holds Try.pinned (OpenSpec.upto rexLawsSpec)

/-- 'wickkeep.RexFirst', WHERE WHAT IT READS IS OF BULK AT MOST 1048576: true; the input reads as it did. -/
def rexFirstUptoRow : OpenClaim := { program := "yteinbjopclblaaa", sum := "6e829bbcbf39eff4ec2a33f65f4c5c4c96f26544bb5eac73935cda903e7505d4", func := "gatewicket/wickkeep.RexFirst", spec := "rexFirst", unfollowed := true, recurses := true, loops := true, apart := false, narrowed := true }
def RexFirstUptoSaid : Prop := rexFirstUptoRow.holds Try.pinned (OpenSpec.upto rexFirstSpec)

/-- 'wickkeep.CodingOne', WHERE WHAT IT READS IS OF BULK AT MOST 1048576: true; the input reads as it did. -/
def codingOneUptoRow : OpenClaim := { program := "yteinbjopclblaaa", sum := "6e829bbcbf39eff4ec2a33f65f4c5c4c96f26544bb5eac73935cda903e7505d4", func := "gatewicket/wickkeep.CodingOne", spec := "codingOne", inPlace := ["internal/bytealg.IndexByteString"], apart := false, narrowed := true }
def CodingOneUptoSaid : Prop := codingOneUptoRow.holds Try.pinned (OpenSpec.upto codingOneSpec)

/-- 'wickkeep.AuditBack', WHERE WHAT IT READS IS OF BULK AT MOST 1048576: true; the input reads as it did. -/
def auditBackUptoRow : OpenClaim := { program := "yteinbjopclblaaa", sum := "6e829bbcbf39eff4ec2a33f65f4c5c4c96f26544bb5eac73935cda903e7505d4", func := "gatewicket/wickkeep.AuditBack", spec := "auditBack", unfollowed := true, recurses := true, apart := false, narrowed := true }
def AuditBackUptoSaid : Prop := auditBackUptoRow.holds Try.pinned (OpenSpec.upto auditBackSpec)

/-- 'wickkeep.CodingBack', WHERE WHAT IT READS IS OF BULK AT MOST 1048576: true; the input reads as it did. -/
def codingBackUptoRow : OpenClaim := { program := "yteinbjopclblaaa", sum := "6e829bbcbf39eff4ec2a33f65f4c5c4c96f26544bb5eac73935cda903e7505d4", func := "gatewicket/wickkeep.CodingBack", spec := "codingBack", inPlace := ["internal/bytealg.IndexByteString"], apart := false, narrowed := true }
def CodingBackUptoSaid : Prop := codingBackUptoRow.holds Try.pinned (OpenSpec.upto codingBackSpec)

/-- 'wickkeep.OctetLower', WHERE WHAT IT READS IS OF BULK AT MOST 1048576: true; the input reads as it did. -/
def octetLowerUptoRow : OpenClaim := { program := "yteinbjopclblaaa", sum := "6e829bbcbf39eff4ec2a33f65f4c5c4c96f26544bb5eac73935cda903e7505d4", func := "gatewicket/wickkeep.OctetLower", spec := "octetLower", inPlace := ["internal/bytealg.IndexByteString", "internal/bytealg.IndexString"], named := ["internal/bytealg.MaxLen"], apart := false, narrowed := true }
def OctetLowerUptoSaid : Prop := octetLowerUptoRow.holds Try.pinned (OpenSpec.upto octetLowerSpec)

/-- 'wickkeep.CodingJoins', WHERE WHAT IT READS IS OF BULK AT MOST 1048576: true; the input reads as it did. -/
def codingJoinsUptoRow : OpenClaim := { program := "yteinbjopclblaaa", sum := "6e829bbcbf39eff4ec2a33f65f4c5c4c96f26544bb5eac73935cda903e7505d4", func := "gatewicket/wickkeep.CodingJoins", spec := "codingJoins", inPlace := ["internal/bytealg.IndexByteString"], apart := false, narrowed := true }
def CodingJoinsUptoSaid : Prop := codingJoinsUptoRow.holds Try.pinned (OpenSpec.upto codingJoinsSpec)

/-- 'wickkeep.CleanAgain', WHERE WHAT IT READS IS OF BULK AT MOST 1048576: true; the input reads as it did. -/
def cleanAgainUptoRow : OpenClaim := { program := "yteinbjopclblaaa", sum := "6e829bbcbf39eff4ec2a33f65f4c5c4c96f26544bb5eac73935cda903e7505d4", func := "gatewicket/wickkeep.CleanAgain", spec := "cleanAgain", inPlace := ["internal/bytealg.IndexByteString", "internal/bytealg.IndexString"], named := ["internal/bytealg.MaxLen"], apart := false, narrowed := true }
def CleanAgainUptoSaid : Prop := cleanAgainUptoRow.holds Try.pinned (OpenSpec.upto cleanAgainSpec)

/-- 'wickkeep.ProgSame', WHERE WHAT IT READS IS OF BULK AT MOST 1048576: true; the input reads as it did. -/
def progSameUptoRow : OpenClaim := { program := "yteinbjopclblaaa", sum := "6e829bbcbf39eff4ec2a33f65f4c5c4c96f26544bb5eac73935cda903e7505d4", func := "gatewicket/wickkeep.ProgSame", spec := "progSame", unfollowed := true, recurses := true, loops := true, apart := false, narrowed := true }
def ProgSameUptoSaid : Prop := progSameUptoRow.holds Try.pinned (OpenSpec.upto progSameSpec)

end Rows
end Go.Proofs.Yteinbjopclblaaa
