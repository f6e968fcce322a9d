/-
  NARROWER THAN 'FOR EVERY INPUT', by the rows' own cells (each row's printed sentence says how): PacketNames: laid · PacketWays: laid · PacketFields: laid · PacketBack: laid · SessionApart: laid.
  DERIVED. THE GIVEN ROWS OF THIS SEAT. 5 by the template 'for every input the law returns true; each argument reads behind the call as it read before'; 0 by the template 'total and deterministic' (their statements: YtjieiijbgbkikaaDoorTotals.lean).
  GIVEN WITH THE SEED: the statements are not yours to turn. If you find one false, say at which input.
  Laid BY PROGRAM, IN A SANDBOX (cutbox-rows.mjs): the forced cells as the released guide's own fill.sh prints them over the translation 1471c252431fcc1a… (all of the seat's roots in one cut). By AI agents, Wed Nov 11 2026. No macro, syntax, notation, axiom, sorry.
-/
import Derived.Test.YtjieiijbgbkikaaDoorChecked
import GoSem.Claim
import GoSem.ClaimJoined
import GoSem.ClaimMapViews
import Derived.JoinedTies
import Derived.KernelRfl
namespace Go.Proofs.YtjieiijbgbkikaaDoor
/- THE CELL 'sum', in the pinned program and in every row, IS THE sha256 OF THE DUMP (.gsa) THAT YtjieiijbgbkikaaDoorProg.lean LOADS. Nothing in Lean hashes anything: it is a label: what it is worth is what the hold of that sum in a sandbox is worth. -/
noncomputable def Tryd.pinned : Pinned := { name := "ytjieiijbgbkikaadoor", sum := "1471c252431fcc1a317ba8a00cf465097061b446d76577d07c221a704d63e496", checked := Tryd.checked }
namespace Rows
def none {H : Type} : Left H := { results := [], args := [] }

/- WHAT THE LISTED PACKAGE-LEVEL VARIABLES READ AS WHEN THE CALL BEGINS. Each datum BY PROGRAM (the guide's laid-datum.mjs) off the statement by which the dump's own 'gosem.cut.vars' lays the variable. In a bare row this is a premise. The card (YtjieiijbgbkikaaDoorCards.lean) ties it to the program's text. -/
def laid_drawbridge_api_Round {H : Type} : DataW H := .agg [.lit (.int .u32 1116352408), .lit (.int .u32 1899447441), .lit (.int .u32 3049323471), .lit (.int .u32 3921009573), .lit (.int .u32 961987163), .lit (.int .u32 1508970993), .lit (.int .u32 2453635748), .lit (.int .u32 2870763221), .lit (.int .u32 3624381080), .lit (.int .u32 310598401), .lit (.int .u32 607225278), .lit (.int .u32 1426881987), .lit (.int .u32 1925078388), .lit (.int .u32 2162078206), .lit (.int .u32 2614888103), .lit (.int .u32 3248222580), .lit (.int .u32 3835390401), .lit (.int .u32 4022224774), .lit (.int .u32 264347078), .lit (.int .u32 604807628), .lit (.int .u32 770255983), .lit (.int .u32 1249150122), .lit (.int .u32 1555081692), .lit (.int .u32 1996064986), .lit (.int .u32 2554220882), .lit (.int .u32 2821834349), .lit (.int .u32 2952996808), .lit (.int .u32 3210313671), .lit (.int .u32 3336571891), .lit (.int .u32 3584528711), .lit (.int .u32 113926993), .lit (.int .u32 338241895), .lit (.int .u32 666307205), .lit (.int .u32 773529912), .lit (.int .u32 1294757372), .lit (.int .u32 1396182291), .lit (.int .u32 1695183700), .lit (.int .u32 1986661051), .lit (.int .u32 2177026350), .lit (.int .u32 2456956037), .lit (.int .u32 2730485921), .lit (.int .u32 2820302411), .lit (.int .u32 3259730800), .lit (.int .u32 3345764771), .lit (.int .u32 3516065817), .lit (.int .u32 3600352804), .lit (.int .u32 4094571909), .lit (.int .u32 275423344), .lit (.int .u32 430227734), .lit (.int .u32 506948616), .lit (.int .u32 659060556), .lit (.int .u32 883997877), .lit (.int .u32 958139571), .lit (.int .u32 1322822218), .lit (.int .u32 1537002063), .lit (.int .u32 1747873779), .lit (.int .u32 1955562222), .lit (.int .u32 2024104815), .lit (.int .u32 2227730452), .lit (.int .u32 2361852424), .lit (.int .u32 2428436474), .lit (.int .u32 2756734187), .lit (.int .u32 3204031479), .lit (.int .u32 3329325298)]
def laid_drawbridge_chacha_columns {H : Type} : DataW H := .agg [.agg [.lit (.int .i64 0), .lit (.int .i64 4), .lit (.int .i64 8), .lit (.int .i64 12)], .agg [.lit (.int .i64 1), .lit (.int .i64 5), .lit (.int .i64 9), .lit (.int .i64 13)], .agg [.lit (.int .i64 2), .lit (.int .i64 6), .lit (.int .i64 10), .lit (.int .i64 14)], .agg [.lit (.int .i64 3), .lit (.int .i64 7), .lit (.int .i64 11), .lit (.int .i64 15)], .agg [.lit (.int .i64 0), .lit (.int .i64 5), .lit (.int .i64 10), .lit (.int .i64 15)], .agg [.lit (.int .i64 1), .lit (.int .i64 6), .lit (.int .i64 11), .lit (.int .i64 12)], .agg [.lit (.int .i64 2), .lit (.int .i64 7), .lit (.int .i64 8), .lit (.int .i64 13)], .agg [.lit (.int .i64 3), .lit (.int .i64 4), .lit (.int .i64 9), .lit (.int .i64 14)]]

/-- 'drawbridgelaw09.PacketNames': WHATEVER THE INPUT: true; the input reads as it did. -/
def packetNamesSpec : ChangeSpec := { name := "packetNames", fn := fun _ => fun
  | [] => { results := [.lit (.bool true)], args := [] }
  | _ => none }
def packetNamesRow : OpenClaim := { program := "ytjieiijbgbkikaadoor", sum := "1471c252431fcc1a317ba8a00cf465097061b446d76577d07c221a704d63e496", func := "drawbridge/drawbridgelaw09.PacketNames", spec := "packetNames", unfollowed := true, recurses := true, named := ["drawbridge/api.Round", "drawbridge/chacha.columns"], apart := false, laid := [("drawbridge/api.Round", laid_drawbridge_api_Round), ("drawbridge/chacha.columns", laid_drawbridge_chacha_columns)] }
def PacketNamesSaid : Prop := packetNamesRow.holds Tryd.pinned (OpenSpec.ofChange packetNamesSpec)

/-- ITS FALSE NEIGHBOUR: 'it returns false'. Refute it at one input. -/
def packetNamesWrong : ChangeSpec := { name := "packetNames", fn := fun _ => fun
  | [] => { results := [.lit (.bool false)], args := [] }
  | _ => none }
def PacketNamesWrongFalsely : Prop := packetNamesRow.holds Tryd.pinned (OpenSpec.ofChange packetNamesWrong)

/-- 'drawbridgelaw09.PacketWays': WHATEVER THE INPUT: true; the input reads as it did. -/
def packetWaysSpec : ChangeSpec := { name := "packetWays", fn := fun _ => fun
  | [d1, d2, d3, d4, d5] => { results := [.lit (.bool true)], args := [d1, d2, d3, d4, d5] }
  | _ => none }
def packetWaysRow : OpenClaim := { program := "ytjieiijbgbkikaadoor", sum := "1471c252431fcc1a317ba8a00cf465097061b446d76577d07c221a704d63e496", func := "drawbridge/drawbridgelaw09.PacketWays", spec := "packetWays", unfollowed := true, recurses := true, named := ["drawbridge/api.Round", "drawbridge/chacha.columns"], apart := false, laid := [("drawbridge/api.Round", laid_drawbridge_api_Round), ("drawbridge/chacha.columns", laid_drawbridge_chacha_columns)] }
def PacketWaysSaid : Prop := packetWaysRow.holds Tryd.pinned (OpenSpec.ofChange packetWaysSpec)

/-- ITS FALSE NEIGHBOUR: 'it returns false'. Refute it at one input. -/
def packetWaysWrong : ChangeSpec := { name := "packetWays", fn := fun _ => fun
  | [d1, d2, d3, d4, d5] => { results := [.lit (.bool false)], args := [d1, d2, d3, d4, d5] }
  | _ => none }
def PacketWaysWrongFalsely : Prop := packetWaysRow.holds Tryd.pinned (OpenSpec.ofChange packetWaysWrong)

/-- 'drawbridgelaw09.PacketFields': WHATEVER THE INPUT: true; the input reads as it did. -/
def packetFieldsSpec : ChangeSpec := { name := "packetFields", fn := fun _ => fun
  | [d1, d2] => { results := [.lit (.bool true)], args := [d1, d2] }
  | _ => none }
def packetFieldsRow : OpenClaim := { program := "ytjieiijbgbkikaadoor", sum := "1471c252431fcc1a317ba8a00cf465097061b446d76577d07c221a704d63e496", func := "drawbridge/drawbridgelaw09.PacketFields", spec := "packetFields", unfollowed := true, recurses := true, named := ["drawbridge/api.Round", "drawbridge/chacha.columns"], apart := false, laid := [("drawbridge/api.Round", laid_drawbridge_api_Round), ("drawbridge/chacha.columns", laid_drawbridge_chacha_columns)] }
def PacketFieldsSaid : Prop := packetFieldsRow.holds Tryd.pinned (OpenSpec.ofChange packetFieldsSpec)

/-- ITS FALSE NEIGHBOUR: 'it returns false'. Refute it at one input. -/
def packetFieldsWrong : ChangeSpec := { name := "packetFields", fn := fun _ => fun
  | [d1, d2] => { results := [.lit (.bool false)], args := [d1, d2] }
  | _ => none }
def PacketFieldsWrongFalsely : Prop := packetFieldsRow.holds Tryd.pinned (OpenSpec.ofChange packetFieldsWrong)

/-- 'drawbridgelaw09.PacketBack': WHATEVER THE INPUT: true; the input reads as it did. -/
def packetBackSpec : ChangeSpec := { name := "packetBack", fn := fun _ => fun
  | [d1, d2, d3, d4, d5] => { results := [.lit (.bool true)], args := [d1, d2, d3, d4, d5] }
  | _ => none }
def packetBackRow : OpenClaim := { program := "ytjieiijbgbkikaadoor", sum := "1471c252431fcc1a317ba8a00cf465097061b446d76577d07c221a704d63e496", func := "drawbridge/drawbridgelaw09.PacketBack", spec := "packetBack", unfollowed := true, recurses := true, named := ["drawbridge/api.Round", "drawbridge/chacha.columns"], apart := false, laid := [("drawbridge/api.Round", laid_drawbridge_api_Round), ("drawbridge/chacha.columns", laid_drawbridge_chacha_columns)] }
def PacketBackSaid : Prop := packetBackRow.holds Tryd.pinned (OpenSpec.ofChange packetBackSpec)

/-- ITS FALSE NEIGHBOUR: 'it returns false'. Refute it at one input. -/
def packetBackWrong : ChangeSpec := { name := "packetBack", fn := fun _ => fun
  | [d1, d2, d3, d4, d5] => { results := [.lit (.bool false)], args := [d1, d2, d3, d4, d5] }
  | _ => none }
def PacketBackWrongFalsely : Prop := packetBackRow.holds Tryd.pinned (OpenSpec.ofChange packetBackWrong)

/-- 'drawbridgelaw16.SessionApart': WHATEVER THE INPUT: true; the input reads as it did. -/
def sessionApartSpec : ChangeSpec := { name := "sessionApart", fn := fun _ => fun
  | [d1, d2, d3, d4] => { results := [.lit (.bool true)], args := [d1, d2, d3, d4] }
  | _ => none }
def sessionApartRow : OpenClaim := { program := "ytjieiijbgbkikaadoor", sum := "1471c252431fcc1a317ba8a00cf465097061b446d76577d07c221a704d63e496", func := "drawbridge/drawbridgelaw16.SessionApart", spec := "sessionApart", unfollowed := true, recurses := true, named := ["drawbridge/api.Round", "drawbridge/chacha.columns"], apart := false, laid := [("drawbridge/api.Round", laid_drawbridge_api_Round), ("drawbridge/chacha.columns", laid_drawbridge_chacha_columns)] }
def SessionApartSaid : Prop := sessionApartRow.holds Tryd.pinned (OpenSpec.ofChange sessionApartSpec)

/-- ITS FALSE NEIGHBOUR: 'it returns false'. Refute it at one input. -/
def sessionApartWrong : ChangeSpec := { name := "sessionApart", fn := fun _ => fun
  | [d1, d2, d3, d4] => { results := [.lit (.bool false)], args := [d1, d2, d3, d4] }
  | _ => none }
def SessionApartWrongFalsely : Prop := sessionApartRow.holds Tryd.pinned (OpenSpec.ofChange sessionApartWrong)

/- THE SECOND FORM. 'bulk': how many values and letters a reading holds, each counted each time it is reached (what is shared counts as often as it is met; a slice's spare places count too). A statement '..UptoSaid' is the law's where the arguments, and the package variables that the reading takes, are together of bulk at most 1048576: NARROWER than '..Said'. Prove '..Said' where nothing that the law and all that it calls make is longer than what came in: it says more and counts as full. Else prove '..UptoSaid'. A law counts once. -/
mutual
def uptoBulk {H : Type} : DataW H → Nat
  | .lit (.string bytes) => bytes.length + 1
  | .lit _ => 1
  | .nil => 1
  | .ptr d => uptoBulk d + 1
  | .slice elems spare => uptoBulkAll elems + uptoBulkAll spare + 1
  | .agg parts => uptoBulkAll parts + 1
  | .iface _ d => uptoBulk d + 1
  | .map entries => uptoBulkEntries entries + 1
  | .held _ => 1
def uptoBulkAll {H : Type} : List (DataW H) → Nat
  | [] => 0
  | d :: r => uptoBulk d + uptoBulkAll r
def uptoBulkEntries {H : Type} : List (Lit × DataW H) → Nat
  | [] => 0
  | x :: r => uptoBulkEntry x + uptoBulkEntries r
def uptoBulkEntry {H : Type} : Lit × DataW H → Nat
  | (.string bytes, d) => bytes.length + uptoBulk d + 1
  | (_, d) => uptoBulk d + 1
 end
def uptoSmall : (H : Type) → List (DataW H) → Bool := fun _ ds => decide (uptoBulkAll ds ≤ 1048576)
def OpenSpec.upto (s : _root_.Go.ChangeSpec) : _root_.Go.OpenSpec := { _root_.Go.OpenSpec.ofChange s with cond := some uptoSmall }

/-- 'drawbridgelaw09.PacketNames', WHERE WHAT IT READS IS OF BULK AT MOST 1048576: true; the input reads as it did. -/
def packetNamesUptoRow : OpenClaim := { program := "ytjieiijbgbkikaadoor", sum := "1471c252431fcc1a317ba8a00cf465097061b446d76577d07c221a704d63e496", func := "drawbridge/drawbridgelaw09.PacketNames", spec := "packetNames", unfollowed := true, recurses := true, named := ["drawbridge/api.Round", "drawbridge/chacha.columns"], apart := false, laid := [("drawbridge/api.Round", laid_drawbridge_api_Round), ("drawbridge/chacha.columns", laid_drawbridge_chacha_columns)], narrowed := true }
def PacketNamesUptoSaid : Prop := packetNamesUptoRow.holds Tryd.pinned (OpenSpec.upto packetNamesSpec)

/-- 'drawbridgelaw09.PacketWays', WHERE WHAT IT READS IS OF BULK AT MOST 1048576: true; the input reads as it did. -/
def packetWaysUptoRow : OpenClaim := { program := "ytjieiijbgbkikaadoor", sum := "1471c252431fcc1a317ba8a00cf465097061b446d76577d07c221a704d63e496", func := "drawbridge/drawbridgelaw09.PacketWays", spec := "packetWays", unfollowed := true, recurses := true, named := ["drawbridge/api.Round", "drawbridge/chacha.columns"], apart := false, laid := [("drawbridge/api.Round", laid_drawbridge_api_Round), ("drawbridge/chacha.columns", laid_drawbridge_chacha_columns)], narrowed := true }
def PacketWaysUptoSaid : Prop := packetWaysUptoRow.holds Tryd.pinned (OpenSpec.upto packetWaysSpec)

/-- 'drawbridgelaw09.PacketFields', WHERE WHAT IT READS IS OF BULK AT MOST 1048576: true; the input reads as it did. -/
def packetFieldsUptoRow : OpenClaim := { program := "ytjieiijbgbkikaadoor", sum := "1471c252431fcc1a317ba8a00cf465097061b446d76577d07c221a704d63e496", func := "drawbridge/drawbridgelaw09.PacketFields", spec := "packetFields", unfollowed := true, recurses := true, named := ["drawbridge/api.Round", "drawbridge/chacha.columns"], apart := false, laid := [("drawbridge/api.Round", laid_drawbridge_api_Round), ("drawbridge/chacha.columns", laid_drawbridge_chacha_columns)], narrowed := true }
def PacketFieldsUptoSaid : Prop := packetFieldsUptoRow.holds Tryd.pinned (OpenSpec.upto packetFieldsSpec)

/-- 'drawbridgelaw09.PacketBack', WHERE WHAT IT READS IS OF BULK AT MOST 1048576: true; the input reads as it did. -/
def packetBackUptoRow : OpenClaim := { program := "ytjieiijbgbkikaadoor", sum := "1471c252431fcc1a317ba8a00cf465097061b446d76577d07c221a704d63e496", func := "drawbridge/drawbridgelaw09.PacketBack", spec := "packetBack", unfollowed := true, recurses := true, named := ["drawbridge/api.Round", "drawbridge/chacha.columns"], apart := false, laid := [("drawbridge/api.Round", laid_drawbridge_api_Round), ("drawbridge/chacha.columns", laid_drawbridge_chacha_columns)], narrowed := true }
def PacketBackUptoSaid : Prop := packetBackUptoRow.holds Tryd.pinned (OpenSpec.upto packetBackSpec)

/-- 'drawbridgelaw16.SessionApart', WHERE WHAT IT READS IS OF BULK AT MOST 1048576: true; the input reads as it did. -/
def sessionApartUptoRow : OpenClaim := { program := "ytjieiijbgbkikaadoor", sum := "1471c252431fcc1a317ba8a00cf465097061b446d76577d07c221a704d63e496", func := "drawbridge/drawbridgelaw16.SessionApart", spec := "sessionApart", unfollowed := true, recurses := true, named := ["drawbridge/api.Round", "drawbridge/chacha.columns"], apart := false, laid := [("drawbridge/api.Round", laid_drawbridge_api_Round), ("drawbridge/chacha.columns", laid_drawbridge_chacha_columns)], narrowed := true }
def SessionApartUptoSaid : Prop := sessionApartUptoRow.holds Tryd.pinned (OpenSpec.upto sessionApartSpec)

end Rows
end Go.Proofs.YtjieiijbgbkikaaDoor
