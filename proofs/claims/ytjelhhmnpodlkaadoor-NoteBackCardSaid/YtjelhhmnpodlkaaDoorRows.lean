/-
  NARROWER THAN 'FOR EVERY INPUT', by the rows' own cells (each row's printed sentence says how): NoteIs: laid · NoteNames: laid · NoteKnown: laid · NoteBack: laid.
  DERIVED. THE GIVEN ROWS OF THIS SEAT. 4 by the template 'for every input the law returns true; each argument reads behind the call as it read before'; 0 by the template 'total and deterministic' (their statements: YtjelhhmnpodlkaaDoorTotals.lean).
  GIVEN WITH THE SEED: the statements are not yours to turn. If you find one false, say at which input.
  Laid BY PROGRAM, IN A SANDBOX (cutbox-rows.mjs): the forced cells as the released guide's own fill.sh prints them over the translation b0f32bff389c14ed… (all of the seat's roots in one cut). By AI agents, Wed Nov 11 2026. No macro, syntax, notation, axiom, sorry.
-/
import Derived.Test.YtjelhhmnpodlkaaDoorChecked
import GoSem.Claim
import GoSem.ClaimJoined
import GoSem.ClaimMapViews
import Derived.JoinedTies
import Derived.KernelRfl
namespace Go.Proofs.YtjelhhmnpodlkaaDoor
/- THE CELL 'sum', in the pinned program and in every row, IS THE sha256 OF THE DUMP (.gsa) THAT YtjelhhmnpodlkaaDoorProg.lean LOADS. Nothing in Lean hashes anything: it is a label: what it is worth is what the hold of that sum in a sandbox is worth. -/
noncomputable def Tryd.pinned : Pinned := { name := "ytjelhhmnpodlkaadoor", sum := "b0f32bff389c14ed22d0f10601da79e83dfaf0eda078a4dda779f5fbca30b6d3", checked := Tryd.checked }
namespace Rows
def none {H : Type} : Left H := { results := [], args := [] }

/- WHAT THE LISTED PACKAGE-LEVEL VARIABLES READ AS WHEN THE CALL BEGINS. Each datum BY PROGRAM (the guide's laid-datum.mjs) off the statement by which the dump's own 'gosem.cut.vars' lays the variable. In a bare row this is a premise. The card (YtjelhhmnpodlkaaDoorCards.lean) ties it to the program's text. -/
def laid_math_bits_deBruijn32tab {H : Type} : DataW H := .agg [.lit (.int .u8 0), .lit (.int .u8 1), .lit (.int .u8 28), .lit (.int .u8 2), .lit (.int .u8 29), .lit (.int .u8 14), .lit (.int .u8 24), .lit (.int .u8 3), .lit (.int .u8 30), .lit (.int .u8 22), .lit (.int .u8 20), .lit (.int .u8 15), .lit (.int .u8 25), .lit (.int .u8 17), .lit (.int .u8 4), .lit (.int .u8 8), .lit (.int .u8 31), .lit (.int .u8 27), .lit (.int .u8 13), .lit (.int .u8 23), .lit (.int .u8 21), .lit (.int .u8 19), .lit (.int .u8 16), .lit (.int .u8 7), .lit (.int .u8 26), .lit (.int .u8 12), .lit (.int .u8 18), .lit (.int .u8 6), .lit (.int .u8 11), .lit (.int .u8 5), .lit (.int .u8 10), .lit (.int .u8 9)]
def laid_math_bits_deBruijn64tab {H : Type} : DataW H := .agg [.lit (.int .u8 0), .lit (.int .u8 1), .lit (.int .u8 56), .lit (.int .u8 2), .lit (.int .u8 57), .lit (.int .u8 49), .lit (.int .u8 28), .lit (.int .u8 3), .lit (.int .u8 61), .lit (.int .u8 58), .lit (.int .u8 42), .lit (.int .u8 50), .lit (.int .u8 38), .lit (.int .u8 29), .lit (.int .u8 17), .lit (.int .u8 4), .lit (.int .u8 62), .lit (.int .u8 47), .lit (.int .u8 59), .lit (.int .u8 36), .lit (.int .u8 45), .lit (.int .u8 43), .lit (.int .u8 51), .lit (.int .u8 22), .lit (.int .u8 53), .lit (.int .u8 39), .lit (.int .u8 33), .lit (.int .u8 30), .lit (.int .u8 24), .lit (.int .u8 18), .lit (.int .u8 12), .lit (.int .u8 5), .lit (.int .u8 63), .lit (.int .u8 55), .lit (.int .u8 48), .lit (.int .u8 27), .lit (.int .u8 60), .lit (.int .u8 41), .lit (.int .u8 37), .lit (.int .u8 16), .lit (.int .u8 46), .lit (.int .u8 35), .lit (.int .u8 44), .lit (.int .u8 21), .lit (.int .u8 52), .lit (.int .u8 32), .lit (.int .u8 23), .lit (.int .u8 11), .lit (.int .u8 54), .lit (.int .u8 26), .lit (.int .u8 40), .lit (.int .u8 15), .lit (.int .u8 34), .lit (.int .u8 20), .lit (.int .u8 31), .lit (.int .u8 10), .lit (.int .u8 25), .lit (.int .u8 14), .lit (.int .u8 19), .lit (.int .u8 9), .lit (.int .u8 13), .lit (.int .u8 8), .lit (.int .u8 7), .lit (.int .u8 6)]
def laid_internal_strconv_uint64pow10 {H : Type} : DataW H := .agg [.lit (.int .u64 1), .lit (.int .u64 10), .lit (.int .u64 100), .lit (.int .u64 1000), .lit (.int .u64 10000), .lit (.int .u64 100000), .lit (.int .u64 1000000), .lit (.int .u64 10000000), .lit (.int .u64 100000000), .lit (.int .u64 1000000000), .lit (.int .u64 10000000000), .lit (.int .u64 100000000000), .lit (.int .u64 1000000000000), .lit (.int .u64 10000000000000), .lit (.int .u64 100000000000000), .lit (.int .u64 1000000000000000), .lit (.int .u64 10000000000000000), .lit (.int .u64 100000000000000000), .lit (.int .u64 1000000000000000000), .lit (.int .u64 10000000000000000000)]
def laid_ridgeway_note_names {H : Type} : DataW H := .agg [.lit (.string []), .lit (.string [104, 101, 97, 100, 101, 114]), .lit (.string [111, 112, 101, 110]), .lit (.string [117, 112, 100, 97, 116, 101]), .lit (.string [104, 111, 108, 100]), .lit (.string [102, 115, 109]), .lit (.string [99, 101, 97, 115, 101])]
def laid_ridgeway_note_subs {H : Type} : DataW H := .agg [.lit (.int .u64 0), .lit (.int .u64 14), .lit (.int .u64 2270), .lit (.int .u64 3966), .lit (.int .u64 1), .lit (.int .u64 15), .lit (.int .u64 2046)]

/-- 'ridgewaylaw05.NoteIs': WHATEVER THE INPUT: true; the input reads as it did. -/
def noteIsSpec : ChangeSpec := { name := "noteIs", fn := fun _ => fun
  | [d1, d2, d3, d4] => { results := [.lit (.bool true)], args := [d1, d2, d3, d4] }
  | _ => none }
def noteIsRow : OpenClaim := { program := "ytjelhhmnpodlkaadoor", sum := "b0f32bff389c14ed22d0f10601da79e83dfaf0eda078a4dda779f5fbca30b6d3", func := "ridgeway/ridgewaylaw05.NoteIs", spec := "noteIs", recurses := true, named := ["ridgeway/note.names", "internal/strconv.uint64pow10", "math/bits.deBruijn32tab", "math/bits.deBruijn64tab", "ridgeway/note.subs"], apart := false, laid := [("math/bits.deBruijn32tab", laid_math_bits_deBruijn32tab), ("math/bits.deBruijn64tab", laid_math_bits_deBruijn64tab), ("internal/strconv.uint64pow10", laid_internal_strconv_uint64pow10), ("ridgeway/note.names", laid_ridgeway_note_names), ("ridgeway/note.subs", laid_ridgeway_note_subs)] }
def NoteIsSaid : Prop := noteIsRow.holds Tryd.pinned (OpenSpec.ofChange noteIsSpec)

/-- ITS FALSE NEIGHBOUR: 'it returns false'. Refute it at one input. -/
def noteIsWrong : ChangeSpec := { name := "noteIs", fn := fun _ => fun
  | [d1, d2, d3, d4] => { results := [.lit (.bool false)], args := [d1, d2, d3, d4] }
  | _ => none }
def NoteIsWrongFalsely : Prop := noteIsRow.holds Tryd.pinned (OpenSpec.ofChange noteIsWrong)

/-- 'ridgewaylaw05.NoteNames': WHATEVER THE INPUT: true; the input reads as it did. -/
def noteNamesSpec : ChangeSpec := { name := "noteNames", fn := fun _ => fun
  | [d1, d2] => { results := [.lit (.bool true)], args := [d1, d2] }
  | _ => none }
def noteNamesRow : OpenClaim := { program := "ytjelhhmnpodlkaadoor", sum := "b0f32bff389c14ed22d0f10601da79e83dfaf0eda078a4dda779f5fbca30b6d3", func := "ridgeway/ridgewaylaw05.NoteNames", spec := "noteNames", named := ["ridgeway/note.names", "internal/strconv.uint64pow10", "math/bits.deBruijn32tab", "math/bits.deBruijn64tab", "ridgeway/note.subs"], apart := false, laid := [("math/bits.deBruijn32tab", laid_math_bits_deBruijn32tab), ("math/bits.deBruijn64tab", laid_math_bits_deBruijn64tab), ("internal/strconv.uint64pow10", laid_internal_strconv_uint64pow10), ("ridgeway/note.names", laid_ridgeway_note_names), ("ridgeway/note.subs", laid_ridgeway_note_subs)] }
def NoteNamesSaid : Prop := noteNamesRow.holds Tryd.pinned (OpenSpec.ofChange noteNamesSpec)

/-- ITS FALSE NEIGHBOUR: 'it returns false'. Refute it at one input. -/
def noteNamesWrong : ChangeSpec := { name := "noteNames", fn := fun _ => fun
  | [d1, d2] => { results := [.lit (.bool false)], args := [d1, d2] }
  | _ => none }
def NoteNamesWrongFalsely : Prop := noteNamesRow.holds Tryd.pinned (OpenSpec.ofChange noteNamesWrong)

/-- 'ridgewaylaw05.NoteKnown': WHATEVER THE INPUT: true; the input reads as it did. -/
def noteKnownSpec : ChangeSpec := { name := "noteKnown", fn := fun _ => fun
  | [d1, d2] => { results := [.lit (.bool true)], args := [d1, d2] }
  | _ => none }
def noteKnownRow : OpenClaim := { program := "ytjelhhmnpodlkaadoor", sum := "b0f32bff389c14ed22d0f10601da79e83dfaf0eda078a4dda779f5fbca30b6d3", func := "ridgeway/ridgewaylaw05.NoteKnown", spec := "noteKnown", named := ["ridgeway/note.names", "internal/strconv.uint64pow10", "math/bits.deBruijn32tab", "math/bits.deBruijn64tab", "ridgeway/note.subs"], apart := false, laid := [("math/bits.deBruijn32tab", laid_math_bits_deBruijn32tab), ("math/bits.deBruijn64tab", laid_math_bits_deBruijn64tab), ("internal/strconv.uint64pow10", laid_internal_strconv_uint64pow10), ("ridgeway/note.names", laid_ridgeway_note_names), ("ridgeway/note.subs", laid_ridgeway_note_subs)] }
def NoteKnownSaid : Prop := noteKnownRow.holds Tryd.pinned (OpenSpec.ofChange noteKnownSpec)

/-- ITS FALSE NEIGHBOUR: 'it returns false'. Refute it at one input. -/
def noteKnownWrong : ChangeSpec := { name := "noteKnown", fn := fun _ => fun
  | [d1, d2] => { results := [.lit (.bool false)], args := [d1, d2] }
  | _ => none }
def NoteKnownWrongFalsely : Prop := noteKnownRow.holds Tryd.pinned (OpenSpec.ofChange noteKnownWrong)

/-- 'ridgewaylaw05.NoteBack': WHATEVER THE INPUT: true; the input reads as it did. -/
def noteBackSpec : ChangeSpec := { name := "noteBack", fn := fun _ => fun
  | [d1, d2] => { results := [.lit (.bool true)], args := [d1, d2] }
  | _ => none }
def noteBackRow : OpenClaim := { program := "ytjelhhmnpodlkaadoor", sum := "b0f32bff389c14ed22d0f10601da79e83dfaf0eda078a4dda779f5fbca30b6d3", func := "ridgeway/ridgewaylaw05.NoteBack", spec := "noteBack", named := ["ridgeway/note.names", "internal/strconv.uint64pow10", "math/bits.deBruijn32tab", "math/bits.deBruijn64tab", "ridgeway/note.subs"], apart := false, laid := [("math/bits.deBruijn32tab", laid_math_bits_deBruijn32tab), ("math/bits.deBruijn64tab", laid_math_bits_deBruijn64tab), ("internal/strconv.uint64pow10", laid_internal_strconv_uint64pow10), ("ridgeway/note.names", laid_ridgeway_note_names), ("ridgeway/note.subs", laid_ridgeway_note_subs)] }
def NoteBackSaid : Prop := noteBackRow.holds Tryd.pinned (OpenSpec.ofChange noteBackSpec)

/-- ITS FALSE NEIGHBOUR: 'it returns false'. Refute it at one input. -/
def noteBackWrong : ChangeSpec := { name := "noteBack", fn := fun _ => fun
  | [d1, d2] => { results := [.lit (.bool false)], args := [d1, d2] }
  | _ => none }
def NoteBackWrongFalsely : Prop := noteBackRow.holds Tryd.pinned (OpenSpec.ofChange noteBackWrong)

/- THE SECOND FORM. 'bulk': how many values and letters a reading holds, each counted each time it is reached (what is shared counts as often as it is met; a slice's spare places count too). A statement '..UptoSaid' is the law's where the arguments, and the package variables that the reading takes, are together of bulk at most 1048576: NARROWER than '..Said'. Prove '..Said' where nothing that the law and all that it calls make is longer than what came in: it says more and counts as full. Else prove '..UptoSaid'. A law counts once. -/
mutual
def uptoBulk {H : Type} : DataW H → Nat
  | .lit (.string bytes) => bytes.length + 1
  | .lit _ => 1
  | .nil => 1
  | .ptr d => uptoBulk d + 1
  | .slice elems spare => uptoBulkAll elems + uptoBulkAll spare + 1
  | .agg parts => uptoBulkAll parts + 1
  | .iface _ d => uptoBulk d + 1
  | .map entries => uptoBulkEntries entries + 1
  | .held _ => 1
def uptoBulkAll {H : Type} : List (DataW H) → Nat
  | [] => 0
  | d :: r => uptoBulk d + uptoBulkAll r
def uptoBulkEntries {H : Type} : List (Lit × DataW H) → Nat
  | [] => 0
  | x :: r => uptoBulkEntry x + uptoBulkEntries r
def uptoBulkEntry {H : Type} : Lit × DataW H → Nat
  | (.string bytes, d) => bytes.length + uptoBulk d + 1
  | (_, d) => uptoBulk d + 1
 end
def uptoSmall : (H : Type) → List (DataW H) → Bool := fun _ ds => decide (uptoBulkAll ds ≤ 1048576)
def OpenSpec.upto (s : _root_.Go.ChangeSpec) : _root_.Go.OpenSpec := { _root_.Go.OpenSpec.ofChange s with cond := some uptoSmall }

/-- 'ridgewaylaw05.NoteIs', WHERE WHAT IT READS IS OF BULK AT MOST 1048576: true; the input reads as it did. -/
def noteIsUptoRow : OpenClaim := { program := "ytjelhhmnpodlkaadoor", sum := "b0f32bff389c14ed22d0f10601da79e83dfaf0eda078a4dda779f5fbca30b6d3", func := "ridgeway/ridgewaylaw05.NoteIs", spec := "noteIs", recurses := true, named := ["ridgeway/note.names", "internal/strconv.uint64pow10", "math/bits.deBruijn32tab", "math/bits.deBruijn64tab", "ridgeway/note.subs"], apart := false, laid := [("math/bits.deBruijn32tab", laid_math_bits_deBruijn32tab), ("math/bits.deBruijn64tab", laid_math_bits_deBruijn64tab), ("internal/strconv.uint64pow10", laid_internal_strconv_uint64pow10), ("ridgeway/note.names", laid_ridgeway_note_names), ("ridgeway/note.subs", laid_ridgeway_note_subs)], narrowed := true }
def NoteIsUptoSaid : Prop := noteIsUptoRow.holds Tryd.pinned (OpenSpec.upto noteIsSpec)

/-- 'ridgewaylaw05.NoteNames', WHERE WHAT IT READS IS OF BULK AT MOST 1048576: true; the input reads as it did. -/
def noteNamesUptoRow : OpenClaim := { program := "ytjelhhmnpodlkaadoor", sum := "b0f32bff389c14ed22d0f10601da79e83dfaf0eda078a4dda779f5fbca30b6d3", func := "ridgeway/ridgewaylaw05.NoteNames", spec := "noteNames", named := ["ridgeway/note.names", "internal/strconv.uint64pow10", "math/bits.deBruijn32tab", "math/bits.deBruijn64tab", "ridgeway/note.subs"], apart := false, laid := [("math/bits.deBruijn32tab", laid_math_bits_deBruijn32tab), ("math/bits.deBruijn64tab", laid_math_bits_deBruijn64tab), ("internal/strconv.uint64pow10", laid_internal_strconv_uint64pow10), ("ridgeway/note.names", laid_ridgeway_note_names), ("ridgeway/note.subs", laid_ridgeway_note_subs)], narrowed := true }
def NoteNamesUptoSaid : Prop := noteNamesUptoRow.holds Tryd.pinned (OpenSpec.upto noteNamesSpec)

/-- 'ridgewaylaw05.NoteKnown', WHERE WHAT IT READS IS OF BULK AT MOST 1048576: true; the input reads as it did. -/
def noteKnownUptoRow : OpenClaim := { program := "ytjelhhmnpodlkaadoor", sum := "b0f32bff389c14ed22d0f10601da79e83dfaf0eda078a4dda779f5fbca30b6d3", func := "ridgeway/ridgewaylaw05.NoteKnown", spec := "noteKnown", named := ["ridgeway/note.names", "internal/strconv.uint64pow10", "math/bits.deBruijn32tab", "math/bits.deBruijn64tab", "ridgeway/note.subs"], apart := false, laid := [("math/bits.deBruijn32tab", laid_math_bits_deBruijn32tab), ("math/bits.deBruijn64tab", laid_math_bits_deBruijn64tab), ("internal/strconv.uint64pow10", laid_internal_strconv_uint64pow10), ("ridgeway/note.names", laid_ridgeway_note_names), ("ridgeway/note.subs", laid_ridgeway_note_subs)], narrowed := true }
def NoteKnownUptoSaid : Prop := noteKnownUptoRow.holds Tryd.pinned (OpenSpec.upto noteKnownSpec)

/-- 'ridgewaylaw05.NoteBack', WHERE WHAT IT READS IS OF BULK AT MOST 1048576: true; the input reads as it did. -/
def noteBackUptoRow : OpenClaim := { program := "ytjelhhmnpodlkaadoor", sum := "b0f32bff389c14ed22d0f10601da79e83dfaf0eda078a4dda779f5fbca30b6d3", func := "ridgeway/ridgewaylaw05.NoteBack", spec := "noteBack", named := ["ridgeway/note.names", "internal/strconv.uint64pow10", "math/bits.deBruijn32tab", "math/bits.deBruijn64tab", "ridgeway/note.subs"], apart := false, laid := [("math/bits.deBruijn32tab", laid_math_bits_deBruijn32tab), ("math/bits.deBruijn64tab", laid_math_bits_deBruijn64tab), ("internal/strconv.uint64pow10", laid_internal_strconv_uint64pow10), ("ridgeway/note.names", laid_ridgeway_note_names), ("ridgeway/note.subs", laid_ridgeway_note_subs)], narrowed := true }
def NoteBackUptoSaid : Prop := noteBackUptoRow.holds Tryd.pinned (OpenSpec.upto noteBackSpec)

end Rows
end Go.Proofs.YtjelhhmnpodlkaaDoor
