/- What the library's table of powers of ten holds, whatever is made behind a world; the library's contract on Itoa in the print's words; no condition is set on any claim. -/
import Derived.Test.YtffhddibgfaopaaDoorZDfShelf
import Derived.Lib.AppendIntMem
import Derived.Below
import Derived.Test.YtffhddibgfaopaaDoorZDfWWords
namespace Go.Proofs.YtffhddibgfaopaaDoor
open Go.RowKit Go.Lib Go.Sort
/-- The table of powers of ten, as it was laid: whatever is done from block B on. -/
def LaidB (P : Program) (B : Nat) (w : World) : Prop := ∀ w', Below B w w' → Lib.TabIs P w' "internal/strconv.uint64pow10" .u64 Lib.pow10Tab
theorem LaidB.of {P : Program} {w : World} (h1 : Lib.TabIs P w "internal/strconv.uint64pow10" .u64 Lib.pow10Tab) : LaidB P w.heap.size w := fun w' hb => Lib.tabBelow_of_tabIs h1 w' hb
/-- Told of a later world. -/
theorem LaidB.go {P : Program} {B : Nat} {w W : World} (h : LaidB P B w) (hb : Below B w W) : LaidB P W.heap.size W := LaidB.of (h W hb)
theorem below_grow_ (w : World) (os : Array Obj) (k : Nat) : Below w.heap.size w (grow (w.drewN k) os) :=
  ⟨rfl, rfl, rfl, Lib.size_grow w k os, fun i hi => by show (w.heap ++ os)[i]? = w.heap[i]?; rw [Array.getElem?_append]; exact if_pos hi⟩
/-- Itoa of any int: its decimal text. -/
theorem itoa_call (n : Int) (h0 : -9223372036854775808 ≤ n) (h1 : n ≤ 9223372036854775807) (w : World) (h : LaidB Tryd.prog w.heap.size w) :
    Calls Tryd.prog 29 #[.int .i64 n] w fun e w' => e = .returned (.string ⟨(Lib.itoa n).toArray⟩) ∧ Below w.heap.size w w' := by
  refine (Tryd.strconv_Itoa n h0 h1 w (h w (Below.refl _ _))).mono ?_
  rintro e w' ⟨he, k, os, rfl⟩
  exact ⟨he, below_grow_ w os k⟩
end Go.Proofs.YtffhddibgfaopaaDoor
