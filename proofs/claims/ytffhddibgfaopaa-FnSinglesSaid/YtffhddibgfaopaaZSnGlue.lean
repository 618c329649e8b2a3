/- Small facts on wrapped numbers and on reading a list at a place; no condition is set on any claim. -/
import Derived.Test.YtffhddibgfaopaaZSnFlo
import Derived.Test.YtffhddibgfaopaaZSnWWords
import Derived.Test.YtffhddibgfaopaaZSnWSized
namespace Go.Proofs.Ytffhddibgfaopaa
/-- The rows name this word so. -/
abbrev PrintWords.sized_ints := @Go.Proofs.YtffhddibgfaopaaW.PrintWords.sized_ints
end Go.Proofs.Ytffhddibgfaopaa
namespace Go.Proofs.Ytffhddibgfaopaa.Pure
open Go.RowKit Go.Proofs.Ytffhddibgfaopaa.Tern Go.Proofs.YtffhddibgfaopaaW.PrintWords

/-- For simp: no equation by sight, so that the kernel is not asked to compare whole terms. -/
theorem bsome {α β : Type} (x : α) (f : α → Option β) : (some x).bind f = f x := by
  cases h : f x with
  | none => simp [h]
  | some y => simp [h]
/-- For simp: what is bound is worked out first, and what follows is left alone. -/
theorem bind_left {α β : Type} {x y : Option α} (f : α → Option β) (h : x = y) : x.bind f = y.bind f := by rw [h]
theorem w64 (x : Int) (h0 : -9223372036854775808 ≤ x) (h1 : x ≤ 9223372036854775807) : wrap64 x = x := by unfold wrap64; omega
theorem rd_nat (l : List Int) (i : Nat) : rd l (i : Int) = l.getD i 0 := by simp [rd]
theorem drop_rd (l : List Int) (i : Nat) (h : i < l.length) : l.drop i = rd l (i : Int) :: l.drop (i + 1) := by
  rw [rd_nat, List.drop_eq_getElem_cons h, List.getD_eq_getElem?_getD, List.getElem?_eq_getElem h]; rfl
theorem take_rd (l : List Int) (i : Nat) (h : i < l.length) : l.take (i + 1) = l.take i ++ [rd l (i : Int)] := by
  rw [rd_nat, List.take_succ_eq_append_getElem h, List.getD_eq_getElem?_getD, List.getElem?_eq_getElem h]; rfl
theorem rd_mem (l : List Int) (i : Nat) (h : i < l.length) : rd l (i : Int) ∈ l := by
  have : rd l (i : Int) ∈ l.drop i := by rw [drop_rd l i h]; exact List.mem_cons_self
  exact List.mem_of_mem_drop this
theorem wf8 {n : Int} (h : (Lit.int .u8 n).wf = true) : 0 ≤ n ∧ n ≤ 255 := by
  have hmin : IntKind.u8.min = 0 := rfl
  have hmax : IntKind.u8.max = 255 := rfl
  simp only [Lit.wf, Bool.and_eq_true, decide_eq_true_eq] at h
  omega

end Go.Proofs.Ytffhddibgfaopaa.Pure
