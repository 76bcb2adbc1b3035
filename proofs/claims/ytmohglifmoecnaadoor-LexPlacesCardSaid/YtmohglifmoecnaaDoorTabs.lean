/- What the package-level tables hold that the functions of this seat read (unicode/utf8's two), as a condition on the world that every change behind the call's own blocks leaves alone; no statement of a law is in here. -/
import Derived.Test.YtmohglifmoecnaaDoorProg
import Derived.Shelf.Unicode.DecodeSlow
import Derived.KernelRfl
namespace Go.Proofs.YtmohglifmoecnaaDoor
open Go.RowKit
structure Tabs (w : World) : Prop where
  u8 : Lib.Utf8Tabs 0 1 w
theorem Tabs.below {w w' : World} (h : Tabs w) (hb : Below w.heap.size w w') : Tabs w' := ⟨Utf8Tabs_below h.u8 hb⟩
end Go.Proofs.YtmohglifmoecnaaDoor
