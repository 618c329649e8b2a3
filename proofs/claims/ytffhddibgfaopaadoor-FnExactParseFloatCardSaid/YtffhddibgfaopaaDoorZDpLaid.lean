/- What the library's laid variables hold, whatever is made behind a world; the library's contracts in the print's words; no condition is set on any claim. -/
import Derived.Test.YtffhddibgfaopaaDoorZDpShelf
import Derived.Lib.AppendIntMem
import Derived.Lib.AtoiAllCases
import Derived.Below
import Derived.Test.YtffhddibgfaopaaDoorZDpWWords
namespace Go.Proofs.YtffhddibgfaopaaDoor
open Go.RowKit Go.Lib Go.Sort
/-- The table of powers of ten, the limit of a search, and the two errors, as they were laid: whatever is done from block B on. -/
def LaidB (P : Program) (B : Nat) (w : World) : Prop := ∀ w', Below B w w' → Lib.TabIs P w' "internal/strconv.uint64pow10" .u64 Lib.pow10Tab ∧ (∃ m : Int, w'.cell? ⟨0, 0, none⟩ = some (.int .i64 m)) ∧ (∃ ev, w'.cell? ⟨2, 0, none⟩ = some ev ∧ (ev = .nilIface ∨ ∃ te pe, ev = .iface te pe)) ∧ (∃ ev, w'.cell? ⟨3, 0, none⟩ = some ev ∧ (ev = .nilIface ∨ ∃ te pe, ev = .iface te pe))
theorem LaidB.of {P : Program} {w : World} (h1 : Lib.TabIs P w "internal/strconv.uint64pow10" .u64 Lib.pow10Tab) (h2 : ∃ m : Int, w.cell? ⟨0, 0, none⟩ = some (.int .i64 m)) (h3 : ∃ ev, w.cell? ⟨2, 0, none⟩ = some ev ∧ (ev = .nilIface ∨ ∃ te pe, ev = .iface te pe)) (h4 : ∃ ev, w.cell? ⟨3, 0, none⟩ = some ev ∧ (ev = .nilIface ∨ ∃ te pe, ev = .iface te pe)) : LaidB P w.heap.size w := by
  intro w' hb
  have mv : ∀ {a : Addr} {v : Value}, w.cell? a = some v → w'.cell? a = some v := fun h => (hb.cell (World.block_lt_of_cell? _ _ h)).trans h
  obtain ⟨m, h2⟩ := h2
  obtain ⟨e3, h3, g3⟩ := h3
  obtain ⟨e4, h4, g4⟩ := h4
  exact ⟨Lib.tabBelow_of_tabIs h1 w' hb, ⟨m, mv h2⟩, ⟨e3, mv h3, g3⟩, ⟨e4, mv h4, g4⟩⟩
/-- Told of a later world. -/
theorem LaidB.go {P : Program} {B : Nat} {w W : World} (h : LaidB P B w) (hb : Below B w W) : LaidB P W.heap.size W := by
  obtain ⟨h1, h2, h3, h4⟩ := h W hb
  exact LaidB.of h1 h2 h3 h4
theorem below_grow_ (w : World) (os : Array Obj) (k : Nat) : Below w.heap.size w (grow (w.drewN k) os) :=
  ⟨rfl, rfl, rfl, Lib.size_grow w k os, fun i hi => by show (w.heap ++ os)[i]? = w.heap[i]?; rw [Array.getElem?_append]; exact if_pos hi⟩
theorem below_bytes_ (w : World) (e : TypeId) (t : ByteArray) : Below w.heap.size w (Lib.bytesWorld w e t) := Go.Proofs.YtffhddibgfaopaaDoorW.PrintWords.bytes_below (Below.refl _ _) (Nat.le_refl _) e t
/-- Itoa of any int: its decimal text. -/
theorem itoa_call (n : Int) (h0 : -9223372036854775808 ≤ n) (h1 : n ≤ 9223372036854775807) (w : World) (h : LaidB Tryd.prog w.heap.size w) :
    Calls Tryd.prog 29 #[.int .i64 n] w fun e w' => e = .returned (.string ⟨(Lib.itoa n).toArray⟩) ∧ Below w.heap.size w w' := by
  refine (Tryd.strconv_Itoa n h0 h1 w (h w (Below.refl _ _)).1).mono ?_
  rintro e w' ⟨he, k, os, rfl⟩
  exact ⟨he, below_grow_ w os k⟩
/-- Atoi of a number's text. -/
theorem atoi_ok_call (s : ByteArray) (v : Int) (hs : s.size ≤ 1048576) (q : Lib.atoiAll s.data.toList = .ok v) (w : World) :
    Calls Tryd.prog 57 #[.string s] w fun e w' => e = .returned (.tuple #[.int .i64 v, .nilIface]) ∧ Below w.heap.size w w' := by
  refine (Tryd.strconv_Atoi_ok s (by omega) v q w).mono ?_
  rintro e w' ⟨he, hw⟩
  refine ⟨he, ?_⟩
  rcases hw with rfl | ⟨t, rfl⟩
  · exact Below.refl _ _
  · exact below_bytes_ w 5 t
/-- What is no number's text, and what is told beside the error. -/
def badA (l : List UInt8) (n : Int) : Prop := Lib.atoiAll l = .range ∧ n = Lib.atoiSat l ∨ Lib.atoiAll l = Lib.atoiAll [] ∧ n = 0
/-- A decimal number as it is written by Itoa, and whether it is. -/
def numberV (s : ByteArray) : Int × Bool := match Lib.atoiAll s.data.toList with
  | .ok v => (v, decide ((⟨(Lib.itoa v).toArray⟩ : ByteArray) = s))
  | .range => (Lib.atoiSat s.data.toList, false)
  | _ => (0, false)
theorem numberV_cases (s : ByteArray) : (∃ v, Lib.atoiAll s.data.toList = .ok v ∧ numberV s = (v, decide ((⟨(Lib.itoa v).toArray⟩ : ByteArray) = s))) ∨ (∃ n, badA s.data.toList n ∧ numberV s = (n, false)) := by
  unfold numberV badA
  cases q : Lib.atoiAll s.data.toList with
  | ok v => exact .inl ⟨v, rfl, rfl⟩
  | range => exact .inr ⟨_, .inl ⟨rfl, rfl⟩, rfl⟩
  | _ => exact .inr ⟨_, .inr ⟨rfl, rfl⟩, rfl⟩
/-- .. of what is none, or none that an int holds. -/
theorem atoi_bad_call (s : ByteArray) (n : Int) (hs : s.size ≤ 1048576) (q : badA s.data.toList n) (w : World) (h : LaidB Tryd.prog w.heap.size w) :
    Calls Tryd.prog 57 #[.string s] w fun e w' => ∃ N, e = .returned (.tuple #[.int .i64 n, .iface 92 (.pointer (some ⟨N, 0, none⟩))]) ∧ Below w.heap.size w w' := by
  obtain ⟨_, _, ⟨e2, c2, g2⟩, ⟨e3, c3, g3⟩⟩ := h w (Below.refl _ _)
  rcases q with ⟨q, rfl⟩ | ⟨q, rfl⟩
  · refine (Tryd.strconv_Atoi_range s (by omega) q e3 w c3 g3).mono ?_
    rintro e w' ⟨N, he, _, _, hb⟩
    exact ⟨N, he, hb⟩
  · refine (Tryd.strconv_Atoi_syntax s (by omega) q e2 w c2 g2).mono ?_
    rintro e w' ⟨N, he, _, _, hb⟩
    exact ⟨N, he, hb⟩
/-- Cut: what stands on both sides. -/
theorem cut_call (s sep : ByteArray) (hs : s.size ≤ 1048576) (w : World) (h : LaidB Tryd.prog w.heap.size w) :
    Calls Tryd.prog 33 #[.string s, .string sep] w fun e w' => e = .returned (.tuple #[.string ⟨(Lib.cut s.data.toList sep.data.toList).1.toArray⟩, .string ⟨(Lib.cut s.data.toList sep.data.toList).2.1.toArray⟩, .bool (Lib.cut s.data.toList sep.data.toList).2.2]) ∧ ∃ n, w' = w.drewN n := by
  obtain ⟨_, ⟨m, c0⟩, _, _⟩ := h w (Below.refl _ _)
  exact Tryd.strings_Cut s sep m w (by omega) c0
end Go.Proofs.YtffhddibgfaopaaDoor
