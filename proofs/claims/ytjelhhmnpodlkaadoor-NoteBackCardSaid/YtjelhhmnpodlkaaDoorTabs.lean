/- What the package-level tables hold that the functions of this seat read (the notes' names and sub-codes, strconv's powers of ten), as a condition on the world that every change behind the call's own blocks leaves alone; no statement of a law is in here. -/
import Derived.Test.YtjelhhmnpodlkaaDoorProg
import Derived.Lib.LaidTab
import Derived.Lib.ItoaNum
import Derived.WalkSmall
import Derived.KernelRfl
namespace Go.Proofs.YtjelhhmnpodlkaaDoor
open Go.RowKit
/-- The codes' names. -/
def namesT : List ByteArray := [⟨#[]⟩, ⟨#[104, 101, 97, 100, 101, 114]⟩, ⟨#[111, 112, 101, 110]⟩, ⟨#[117, 112, 100, 97, 116, 101]⟩, ⟨#[104, 111, 108, 100]⟩, ⟨#[102, 115, 109]⟩, ⟨#[99, 101, 97, 115, 101]⟩]
/-- The sub-codes that have a meaning, as bits. -/
def subsT : List Int := [0, 14, 2270, 3966, 1, 15, 2046]
structure Tabs (w : World) : Prop where
  pow : Lib.TabIs Tryd.prog w "internal/strconv.uint64pow10" .u64 Lib.pow10Tab
  names : w.var? Tryd.prog "ridgeway/note.names" = some (namesT.map Value.string).toArray
  subs : Lib.TabIs Tryd.prog w "ridgeway/note.subs" .u64 subsT
  size : 3 ≤ w.heap.size
theorem gSubs : Tryd.prog.globalNamed "ridgeway/note.subs" = some 0 := by kernel_rfl
theorem gNames : Tryd.prog.globalNamed "ridgeway/note.names" = some 1 := by kernel_rfl
theorem gPow : Tryd.prog.globalNamed "internal/strconv.uint64pow10" = some 2 := by kernel_rfl
theorem Tabs.below {w w' : World} (h : Tabs w) (hb : Below w.heap.size w w') : Tabs w' where
  pow := Go.var?_below hb gPow (Nat.lt_of_lt_of_le (by decide) h.size) h.pow
  names := Go.var?_below hb gNames (Nat.lt_of_lt_of_le (by decide) h.size) h.names
  subs := Go.var?_below hb gSubs (Nat.lt_of_lt_of_le (by decide) h.size) h.subs
  size := Nat.le_trans h.size hb.size
theorem Tabs.name {w : World} (h : Tabs w) (i : Nat) (hi : i < 7) : w.cell? ⟨1, i, none⟩ = some (.string (namesT.getD i ByteArray.empty)) := by
  have := World.var?_cell gNames h.names i
  have hl : i < namesT.length := hi
  simpa [List.getD, hl] using this
theorem Tabs.sub {w : World} (h : Tabs w) (i : Nat) (hi : i < 7) : w.cell? ⟨0, i, none⟩ = some (.int .u64 (subsT.getD i 0)) := h.subs.cell gSubs i hi
end Go.Proofs.YtjelhhmnpodlkaaDoor
