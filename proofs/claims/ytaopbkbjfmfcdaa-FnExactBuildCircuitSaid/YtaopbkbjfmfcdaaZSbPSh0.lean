/- What functions of the program come to, each with the proof that it does, laid by a program of this session out of the translation; no condition is set on any claim. -/
import Derived.Test.YtaopbkbjfmfcdaaProg
import Derived.Below
import Derived.Deep.Draws
import Derived.Deep.AppendLies
import Derived.Maps.AppendAt
import Derived.OwnWalk
import Derived.Laws.BytesArg
import Derived.Laws.MakeOwn
import Derived.Laws.OwnMore
import Derived.Deep.OwnRows
import Derived.Tactics
import Derived.Lib.ConvBytes
import Derived.Laws.Slices
import Derived.WalkKit
import Derived.KernelRfl
import Derived.RowKit3
import Derived.Deep.LoopGhost
import Derived.Deep.QuietTactic
import Derived.BigQuiet
import Derived.WideLaws
import Derived.Deep.DeepCutAuto
import Derived.Deep.CutBlock
import Derived.Deep.RegionHeld3
import Derived.Laws.Rows
import Derived.Lib.AppendStr
import Derived.ArgAppend
import Derived.Laws.IdiomCopy
import Derived.OrdersHeld
import Derived.Laws.BitsLemmas
import Derived.RowKit
import Derived.Test.YtaopbkbjfmfcdaaZSbWWords
import Derived.Test.YtaopbkbjfmfcdaaZSbWLast
import Derived.Test.YtaopbkbjfmfcdaaZSbWTab
import Derived.Test.YtaopbkbjfmfcdaaZSbWFour
import Derived.Test.YtaopbkbjfmfcdaaZSbWQPut
import Derived.Test.YtaopbkbjfmfcdaaZSbWApart
import Derived.Test.YtaopbkbjfmfcdaaZSbWArr
import Derived.Test.YtaopbkbjfmfcdaaZSbWZeros
import Derived.Test.YtaopbkbjfmfcdaaZSbWFoot
import Derived.Test.YtaopbkbjfmfcdaaZSbWKept
import Derived.Test.YtaopbkbjfmfcdaaZSbWShare
import Derived.Test.YtaopbkbjfmfcdaaZSbWN
import Derived.Test.YtaopbkbjfmfcdaaZSbWFootNe
import Derived.Test.YtaopbkbjfmfcdaaZSbWAt
import Derived.Test.YtaopbkbjfmfcdaaZSbWEqStruct
import Derived.Test.YtaopbkbjfmfcdaaZSbWRepsOne
import Derived.Test.YtaopbkbjfmfcdaaZSbWInv
import Derived.Test.YtaopbkbjfmfcdaaZSbWInvWords
import Derived.Test.YtaopbkbjfmfcdaaZSbWGuard
import Derived.Test.YtaopbkbjfmfcdaaZSbWNEv
import Derived.Test.YtaopbkbjfmfcdaaZSbWMore
namespace Go.Proofs.Ytaopbkbjfmfcdaa.P
open Go.RowKit Go.Proofs.YtaopbkbjfmfcdaaW.PrintWords Go.Proofs.YtaopbkbjfmfcdaaW.PrintLast Go.Proofs.YtaopbkbjfmfcdaaW.PrintMore
attribute [local go_sem] max2_int min2_int max_two min_two max_three min_three max_four min_four   -- for this text's walks alone
set_option linter.unusedVariables false
set_option linter.unusedSimpArgs false

def errW : Option Int → Value
  | none => .nilIface
  | some c => .iface 0 (.int .i64 c)
theorem errW_none : errW none = .nilIface := rfl
theorem errW_some (c : Int) : errW (some c) = .iface 0 (.int .i64 c) := rfl

/-- What is known of a block, over new blocks and draws. -/
theorem bA {W W' : World} {g : Nat} {o : Option Obj} (h : W.heap[g]? = o) (m : W.heap[g]? = o → W'.heap[g]? = o := by intro h_; (with_reducible repeat (first | refine blk_drewN ?_ _ | refine blk_drew ?_ | refine blk_alloc ?_ _)); exact h_) : W'.heap[g]? = o := m h
/-- What lies below stays, over new blocks, draws and stores into what is new. -/
theorem bB {B : Nat} {w W W' : World} (h : Below B w W) (m : Below B w W → Below B w W' := by intro h_; repeat (first | (with_reducible first | exact h_ | apply below_alloc | apply pw_below_drewN | apply below_drew1 | refine below_set ?_ (Aside0.out (by assumption))) | exact h_)) : Below B w W' := m h
/-- An element of an array that is the begin of a block. -/
theorem arrAt_ {W : World} {g t : Nat} {cells : Array Value} {j N : Int} (L : List Int) (S : List Value) (h : W.heap[g]? = some (.cells cells t (0, 0))) (e : cells = (L.map (Value.int .i64) ++ S).toArray) (h0 : 0 ≤ j) (h1 : j < N) (hN : N = (L.length : Int)) : W.cell? ⟨g, j.toNat, none⟩ = some (.int .i64 (rd L j)) := by
  refine (blk_cell h j.toNat).trans ?_
  subst e
  subst hN
  have hl : j.toNat < L.length := by omega
  rw [List.getElem?_toArray, List.getElem?_append_left (by simpa using hl), List.getElem?_map, List.getElem?_eq_getElem hl]
  unfold rd
  rw [List.getD_eq_getElem?_getD, List.getElem?_eq_getElem hl]
  rfl
/-- .. of an array that lies further in. -/
theorem arrAtO_ {W : World} {g t : Nat} {cells : Array Value} {j N : Int} (P : List Value) (L : List Int) (S : List Value) (h : W.heap[g]? = some (.cells cells t (0, 0))) (e : cells = (P ++ (L.map (Value.int .i64) ++ S)).toArray) (h0 : 0 ≤ j) (h1 : j < N) (hN : N = (L.length : Int)) : W.cell? ⟨g, P.length + j.toNat, none⟩ = some (.int .i64 (rd L j)) := by
  refine (blk_cell h (P.length + j.toNat)).trans ?_
  subst e
  subst hN
  have hl : j.toNat < L.length := by omega
  rw [List.getElem?_toArray, List.getElem?_append_right (by omega), Nat.add_sub_cancel_left, List.getElem?_append_left (by simpa using hl), List.getElem?_map, List.getElem?_eq_getElem hl]
  unfold rd
  rw [List.getD_eq_getElem?_getD, List.getElem?_eq_getElem hl]
  rfl
/-- .. of an array of arrays. -/
theorem arrAtT_ {W : World} {g t : Nat} {cells : Array Value} {i j : Int} {n m : Nat} (L : List Int) (S : List Value) (h : W.heap[g]? = some (.cells cells t (0, 0))) (e : cells = (L.map (Value.int .i64) ++ S).toArray) (h0 : 0 ≤ i) (h1 : i < (n : Int)) (h2 : 0 ≤ j) (h3 : j < (m : Int)) (hN : n * m = L.length) : W.cell? ⟨g, i.toNat * m + j.toNat, none⟩ = some (.int .i64 (rd L ((m : Int) * i + j))) := by
  obtain ⟨p, rfl⟩ := Int.eq_ofNat_of_zero_le h0
  obtain ⟨q, rfl⟩ := Int.eq_ofNat_of_zero_le h2
  have hb : p * m + q < n * m := by
    have : p * m + m ≤ n * m := by rw [← Nat.succ_mul]; exact Nat.mul_le_mul_right _ (by omega)
    omega
  have := arrAt_ (j := ((p * m + q : Nat) : Int)) L S h e (by omega) (by rw [← hN]; omega) rfl
  simp only [Int.toNat_natCast] at this ⊢
  rw [this, show ((p * m + q : Nat) : Int) = (m : Int) * (p : Int) + (q : Int) from by rw [Int.natCast_add, Int.natCast_mul, Int.mul_comm]]
/-- Element i behind a store of v at place j. -/
def sel9 (j i v x : Int) : Int := if j = i then v else x
def selL (j v : Int) : Int → List Int → List Int
  | _, [] => []
  | i, x :: xs => sel9 j i v x :: selL j v (i + 1) xs
theorem selL_get (j v : Int) : ∀ (l : List Int) (i : Int) (q : Nat), (selL j v i l)[q]? = (l[q]?).map fun x => sel9 j (i + q) v x
  | [], i, q => by simp [selL]
  | x :: xs, i, 0 => by simp [selL]
  | x :: xs, i, q + 1 => by
    rw [selL, List.getElem?_cons_succ, List.getElem?_cons_succ, selL_get j v xs (i + 1) q]
    congr 1
    funext y
    congr 1
    omega
/-- .. as the block has it then. -/
theorem arrPut_ {W : World} {g t : Nat} {cells : Array Value} {j N : Int} (L L2 : List Int) (S : List Value) (h : W.heap[g]? = some (.cells cells t (0, 0))) (e : cells = (L.map (Value.int .i64) ++ S).toArray) (h0 : 0 ≤ j) (h1 : j < N) (hN : N = (L.length : Int)) (v : Int) (e2 : L2 = selL j v 0 L) : (W.setCell ⟨g, j.toNat, none⟩ (.int .i64 v)).heap[g]? = some (.cells (L2.map (Value.int .i64) ++ S).toArray t (0, 0)) := by
  refine (blk_set h j.toNat (.int .i64 v)).trans ?_
  subst e
  subst hN
  subst e2
  congr 2
  have hl : j.toNat < L.length := by omega
  apply Array.ext_getElem?
  intro q
  have hs : (selL j v 0 L).length = L.length := by
    clear h h0 h1 hl
    generalize (0 : Int) = i
    induction L generalizing i with
    | nil => rfl
    | cons x xs ih => simp [selL, ih]
  rw [Array.getElem?_setIfInBounds]
  simp only [List.getElem?_toArray, List.size_toArray, List.length_append, List.length_map]
  by_cases hq : j.toNat = q
  · subst hq
    rw [if_pos rfl, if_pos (by omega), List.getElem?_append_left (by simp [hs]; omega), List.getElem?_map, selL_get, List.getElem?_eq_getElem hl]
    show some _ = some (Value.int .i64 (sel9 j (0 + (j.toNat : Int)) v _))
    unfold sel9
    rw [if_pos (by omega)]
  · rw [if_neg hq]
    by_cases hq2 : q < L.length
    · rw [List.getElem?_append_left (by simpa using hq2), List.getElem?_append_left (by simpa [hs] using hq2), List.getElem?_map, List.getElem?_map, selL_get, List.getElem?_eq_getElem hq2]
      show some _ = some (Value.int .i64 (sel9 j (0 + (q : Int)) v _))
      unfold sel9
      rw [if_neg (by omega)]
    · rw [List.getElem?_append_right (by simpa using Nat.le_of_not_lt hq2), List.getElem?_append_right (by simpa [hs] using Nat.le_of_not_lt hq2)]
      simp [hs]
theorem arrPutT_ {W : World} {g t : Nat} {cells : Array Value} {i j : Int} {n m : Nat} (L L2 : List Int) (S : List Value) (h : W.heap[g]? = some (.cells cells t (0, 0))) (e : cells = (L.map (Value.int .i64) ++ S).toArray) (h0 : 0 ≤ i) (h1 : i < (n : Int)) (h2 : 0 ≤ j) (h3 : j < (m : Int)) (hN : n * m = L.length) (v : Int) (e2 : L2 = selL ((m : Int) * i + j) v 0 L) : (W.setCell ⟨g, i.toNat * m + j.toNat, none⟩ (.int .i64 v)).heap[g]? = some (.cells (L2.map (Value.int .i64) ++ S).toArray t (0, 0)) := by
  obtain ⟨p, rfl⟩ := Int.eq_ofNat_of_zero_le h0
  obtain ⟨q, rfl⟩ := Int.eq_ofNat_of_zero_le h2
  have hb : p * m + q < n * m := by
    have : p * m + m ≤ n * m := by rw [← Nat.succ_mul]; exact Nat.mul_le_mul_right _ (by omega)
    omega
  have ee : ((p * m + q : Nat) : Int) = (m : Int) * (p : Int) + (q : Int) := by rw [Int.natCast_add, Int.natCast_mul, Int.mul_comm]
  have := arrPut_ (j := ((p * m + q : Nat) : Int)) L L2 S h e (by omega) (by rw [← hN]; omega) rfl v (by rw [ee]; exact e2)
  simp only [Int.toNat_natCast] at this ⊢
  exact this

theorem info46 : (Try.prog.info? 46).map (fun i => (i.zero, i.size, i.bytes)) = some (some (.agg #[(.int .i64 0), (.int .i64 0), (.int .i64 0), (.int .i64 0), (.int .i64 0), (.int .i64 0), (.int .i64 0), (.int .i64 0), (.int .i64 0), (.int .i64 0), (.int .i64 0)]), 11, 88) := by kernel_rfl
-- the values' own types
/-! #### struct type 23 -/
structure S23 where
  f0 : Int
  f1 : Int
  f2 : Int
  f3 : Int
  f4 : Int
  f5 : Int
  f6 : Int
  f7 : Int
  f8 : Int
def z23 : S23 := ⟨(0 : Int), (0 : Int), (0 : Int), (0 : Int), (0 : Int), (0 : Int), (0 : Int), (0 : Int), (0 : Int)⟩
def k23 : Kd S23 := Kd.iso (Kd.pair (Kd.int .i64) (Kd.pair (Kd.int .i64) (Kd.pair (Kd.int .i64) (Kd.pair (Kd.int .i64) (Kd.pair (Kd.int .i64) (Kd.pair (Kd.int .i64) (Kd.pair (Kd.int .i64) (Kd.pair (Kd.int .i64) (Kd.int .i64))))))))) (fun x : S23 => (x.f0, x.f1, x.f2, x.f3, x.f4, x.f5, x.f6, x.f7, x.f8))
theorem k23_open {w : World} {x : S23} {cs : List Value} (h : k23.K w x cs) : cs = [.int .i64 x.f0, .int .i64 x.f1, .int .i64 x.f2, .int .i64 x.f3, .int .i64 x.f4, .int .i64 x.f5, .int .i64 x.f6, .int .i64 x.f7, .int .i64 x.f8] := by
  obtain ⟨_, _, rfl, rfl, ⟨_, _, rfl, rfl, ⟨_, _, rfl, rfl, ⟨_, _, rfl, rfl, ⟨_, _, rfl, rfl, ⟨_, _, rfl, rfl, ⟨_, _, rfl, rfl, ⟨_, _, rfl, rfl, rfl⟩⟩⟩⟩⟩⟩⟩⟩ := h
  exact rfl
theorem k23_mkM (w : World) (base : Nat) (ok : Nat → Prop) (x : S23)  : k23.M w base ok x [.int .i64 x.f0, .int .i64 x.f1, .int .i64 x.f2, .int .i64 x.f3, .int .i64 x.f4, .int .i64 x.f5, .int .i64 x.f6, .int .i64 x.f7, .int .i64 x.f8] := ⟨[.int .i64 x.f0], [.int .i64 x.f1, .int .i64 x.f2, .int .i64 x.f3, .int .i64 x.f4, .int .i64 x.f5, .int .i64 x.f6, .int .i64 x.f7, .int .i64 x.f8], rfl, rfl, ⟨[.int .i64 x.f1], [.int .i64 x.f2, .int .i64 x.f3, .int .i64 x.f4, .int .i64 x.f5, .int .i64 x.f6, .int .i64 x.f7, .int .i64 x.f8], rfl, rfl, ⟨[.int .i64 x.f2], [.int .i64 x.f3, .int .i64 x.f4, .int .i64 x.f5, .int .i64 x.f6, .int .i64 x.f7, .int .i64 x.f8], rfl, rfl, ⟨[.int .i64 x.f3], [.int .i64 x.f4, .int .i64 x.f5, .int .i64 x.f6, .int .i64 x.f7, .int .i64 x.f8], rfl, rfl, ⟨[.int .i64 x.f4], [.int .i64 x.f5, .int .i64 x.f6, .int .i64 x.f7, .int .i64 x.f8], rfl, rfl, ⟨[.int .i64 x.f5], [.int .i64 x.f6, .int .i64 x.f7, .int .i64 x.f8], rfl, rfl, ⟨[.int .i64 x.f6], [.int .i64 x.f7, .int .i64 x.f8], rfl, rfl, ⟨[.int .i64 x.f7], [.int .i64 x.f8], rfl, rfl, rfl⟩⟩⟩⟩⟩⟩⟩⟩

/-! #### struct type 46 -/
structure S46 where
  f0 : S23
  f1 : Int
  f2 : Int
def z46 : S46 := ⟨z23, (0 : Int), (0 : Int)⟩
def k46 : Kd S46 := Kd.iso (Kd.pair k23 (Kd.pair (Kd.int .i64) (Kd.int .i64))) (fun x : S46 => (x.f0, x.f1, x.f2))
theorem k46_open {w : World} {x : S46} {cs : List Value} (h : k46.K w x cs) : cs = [.int .i64 x.f0.f0, .int .i64 x.f0.f1, .int .i64 x.f0.f2, .int .i64 x.f0.f3, .int .i64 x.f0.f4, .int .i64 x.f0.f5, .int .i64 x.f0.f6, .int .i64 x.f0.f7, .int .i64 x.f0.f8, .int .i64 x.f1, .int .i64 x.f2] := by
  obtain ⟨_, _, rfl, s0, ⟨_, _, rfl, rfl, rfl⟩⟩ := h
  obtain rfl := k23_open s0
  exact rfl
theorem k46_mkM (w : World) (base : Nat) (ok : Nat → Prop) (x : S46)  : k46.M w base ok x [.int .i64 x.f0.f0, .int .i64 x.f0.f1, .int .i64 x.f0.f2, .int .i64 x.f0.f3, .int .i64 x.f0.f4, .int .i64 x.f0.f5, .int .i64 x.f0.f6, .int .i64 x.f0.f7, .int .i64 x.f0.f8, .int .i64 x.f1, .int .i64 x.f2] := ⟨[.int .i64 x.f0.f0, .int .i64 x.f0.f1, .int .i64 x.f0.f2, .int .i64 x.f0.f3, .int .i64 x.f0.f4, .int .i64 x.f0.f5, .int .i64 x.f0.f6, .int .i64 x.f0.f7, .int .i64 x.f0.f8], [.int .i64 x.f1, .int .i64 x.f2], rfl, (k23_mkM w base ok x.f0 ), ⟨[.int .i64 x.f1], [.int .i64 x.f2], rfl, rfl, rfl⟩⟩
def rd_T46 (xs : List S46) (i : Int) : S46 := xs.getD i.toNat z46
theorem at_T46 {w : World} {A : Option Addr} {n : Nat} {xs : List S46} (h : Kd.C k46 w A n xs) (i : Int) (h0 : 0 ≤ i) (h1 : i < n) : ∃ ad , A = some ad ∧ w.cell? (ad.add (i.toNat * 11)) = some (.int .i64 (rd_T46 xs i).f0.f0) ∧ w.cell? ⟨(ad.add (i.toNat * 11)).block, (ad.add (i.toNat * 11)).off + 1, none⟩ = some (.int .i64 (rd_T46 xs i).f0.f1) ∧ w.cell? ⟨(ad.add (i.toNat * 11)).block, (ad.add (i.toNat * 11)).off + 2, none⟩ = some (.int .i64 (rd_T46 xs i).f0.f2) ∧ w.cell? ⟨(ad.add (i.toNat * 11)).block, (ad.add (i.toNat * 11)).off + 3, none⟩ = some (.int .i64 (rd_T46 xs i).f0.f3) ∧ w.cell? ⟨(ad.add (i.toNat * 11)).block, (ad.add (i.toNat * 11)).off + 4, none⟩ = some (.int .i64 (rd_T46 xs i).f0.f4) ∧ w.cell? ⟨(ad.add (i.toNat * 11)).block, (ad.add (i.toNat * 11)).off + 5, none⟩ = some (.int .i64 (rd_T46 xs i).f0.f5) ∧ w.cell? ⟨(ad.add (i.toNat * 11)).block, (ad.add (i.toNat * 11)).off + 6, none⟩ = some (.int .i64 (rd_T46 xs i).f0.f6) ∧ w.cell? ⟨(ad.add (i.toNat * 11)).block, (ad.add (i.toNat * 11)).off + 7, none⟩ = some (.int .i64 (rd_T46 xs i).f0.f7) ∧ w.cell? ⟨(ad.add (i.toNat * 11)).block, (ad.add (i.toNat * 11)).off + 8, none⟩ = some (.int .i64 (rd_T46 xs i).f0.f8) ∧ w.cell? ⟨(ad.add (i.toNat * 11)).block, (ad.add (i.toNat * 11)).off + 9, none⟩ = some (.int .i64 (rd_T46 xs i).f1) ∧ w.cell? ⟨(ad.add (i.toNat * 11)).block, (ad.add (i.toNat * 11)).off + 10, none⟩ = some (.int .i64 (rd_T46 xs i).f2) := by
  obtain ⟨ad, c, e, _, hK, hc0⟩ := Kd.C_get h z46 i h0 h1
  have hc : ∀ j u, c[j]? = some u → w.cell? (ad.add (i.toNat * 11 + j)) = some u := hc0
  obtain rfl := k46_open hK
  exact ⟨ad, e, hc 0 _ rfl, by rw [← add_field _ _ 1 (by omega)]; exact hc 1 _ rfl, by rw [← add_field _ _ 2 (by omega)]; exact hc 2 _ rfl, by rw [← add_field _ _ 3 (by omega)]; exact hc 3 _ rfl, by rw [← add_field _ _ 4 (by omega)]; exact hc 4 _ rfl, by rw [← add_field _ _ 5 (by omega)]; exact hc 5 _ rfl, by rw [← add_field _ _ 6 (by omega)]; exact hc 6 _ rfl, by rw [← add_field _ _ 7 (by omega)]; exact hc 7 _ rfl, by rw [← add_field _ _ 8 (by omega)]; exact hc 8 _ rfl, by rw [← add_field _ _ 9 (by omega)]; exact hc 9 _ rfl, by rw [← add_field _ _ 10 (by omega)]; exact hc 10 _ rfl⟩

/-! #### struct type 22 -/
structure S22 where
  f0 : Int
  f1 : Int
  f2 : Int
  f3 : Int
  f4 : Int
  f5 : Int
  f6 : Int
  f7 : Int
  f8 : Int
def k22 : Kd S22 := Kd.iso (Kd.pair (Kd.int .i64) (Kd.pair (Kd.int .i64) (Kd.pair (Kd.int .i64) (Kd.pair (Kd.int .i64) (Kd.pair (Kd.int .i64) (Kd.pair (Kd.int .i64) (Kd.pair (Kd.int .i64) (Kd.pair (Kd.int .i64) (Kd.int .i64))))))))) (fun x : S22 => (x.f0, x.f1, x.f2, x.f3, x.f4, x.f5, x.f6, x.f7, x.f8))
theorem k22_open {w : World} {x : S22} {cs : List Value} (h : k22.K w x cs) : cs = [.int .i64 x.f0, .int .i64 x.f1, .int .i64 x.f2, .int .i64 x.f3, .int .i64 x.f4, .int .i64 x.f5, .int .i64 x.f6, .int .i64 x.f7, .int .i64 x.f8] := by
  obtain ⟨_, _, rfl, rfl, ⟨_, _, rfl, rfl, ⟨_, _, rfl, rfl, ⟨_, _, rfl, rfl, ⟨_, _, rfl, rfl, ⟨_, _, rfl, rfl, ⟨_, _, rfl, rfl, ⟨_, _, rfl, rfl, rfl⟩⟩⟩⟩⟩⟩⟩⟩ := h
  exact rfl

/-! #### struct type 35 -/

end Go.Proofs.Ytaopbkbjfmfcdaa.P
