/- What functions of the program come to, each with the proof that it does, laid by a program of this session out of the translation; no condition is set on any claim. -/
import Derived.Test.YtaopbkbjfmfcdaaProg
import Derived.Below
import Derived.Deep.Draws
import Derived.Deep.AppendLies
import Derived.Maps.AppendAt
import Derived.OwnWalk
import Derived.Laws.BytesArg
import Derived.Laws.MakeOwn
import Derived.Laws.OwnMore
import Derived.Deep.OwnRows
import Derived.Tactics
import Derived.Lib.ConvBytes
import Derived.Laws.Slices
import Derived.WalkKit
import Derived.KernelRfl
import Derived.RowKit3
import Derived.Deep.LoopGhost
import Derived.Deep.QuietTactic
import Derived.BigQuiet
import Derived.WideLaws
import Derived.Deep.DeepCutAuto
import Derived.Deep.CutBlock
import Derived.Deep.RegionHeld3
import Derived.Laws.Rows
import Derived.Lib.AppendStr
import Derived.ArgAppend
import Derived.Laws.IdiomCopy
import Derived.OrdersHeld
import Derived.Laws.BitsLemmas
import Derived.RowKit
import Derived.Test.YtaopbkbjfmfcdaaWWords
import Derived.Test.YtaopbkbjfmfcdaaWLast
import Derived.Test.YtaopbkbjfmfcdaaWTab
import Derived.Test.YtaopbkbjfmfcdaaWFour
import Derived.Test.YtaopbkbjfmfcdaaWQPut
import Derived.Test.YtaopbkbjfmfcdaaWApart
import Derived.Test.YtaopbkbjfmfcdaaWArr
import Derived.Test.YtaopbkbjfmfcdaaWZeros
import Derived.Test.YtaopbkbjfmfcdaaWFoot
import Derived.Test.YtaopbkbjfmfcdaaWKept
import Derived.Test.YtaopbkbjfmfcdaaWShare
import Derived.Test.YtaopbkbjfmfcdaaWN
import Derived.Test.YtaopbkbjfmfcdaaWFootNe
import Derived.Test.YtaopbkbjfmfcdaaWAt
import Derived.Test.YtaopbkbjfmfcdaaWEqStruct
import Derived.Test.YtaopbkbjfmfcdaaWRepsOne
import Derived.Test.YtaopbkbjfmfcdaaWInv
import Derived.Test.YtaopbkbjfmfcdaaWInvWords
import Derived.Test.YtaopbkbjfmfcdaaWGuard
import Derived.Test.YtaopbkbjfmfcdaaWNEv
import Derived.Test.YtaopbkbjfmfcdaaWMore
namespace Go.Proofs.Ytaopbkbjfmfcdaa.P
open Go.RowKit Go.Proofs.YtaopbkbjfmfcdaaW.PrintWords Go.Proofs.YtaopbkbjfmfcdaaW.PrintLast Go.Proofs.YtaopbkbjfmfcdaaW.PrintMore
attribute [local go_sem] max2_int min2_int max_two min_two max_three min_three max_four min_four   -- for this text's walks alone
set_option linter.unusedVariables false
set_option linter.unusedSimpArgs false



def errW : Option Int → Value
  | none => .nilIface
  | some c => .iface 0 (.int .i64 c)
theorem errW_none : errW none = .nilIface := rfl
theorem errW_some (c : Int) : errW (some c) = .iface 0 (.int .i64 c) := rfl

/-- What is known of a block, over new blocks and draws. -/
theorem bA {W W' : World} {g : Nat} {o : Option Obj} (h : W.heap[g]? = o) (m : W.heap[g]? = o → W'.heap[g]? = o := by intro h_; (with_reducible repeat (first | refine blk_drewN ?_ _ | refine blk_drew ?_ | refine blk_alloc ?_ _)); exact h_) : W'.heap[g]? = o := m h
/-- What lies below stays, over new blocks, draws and stores into what is new. -/
theorem bB {B : Nat} {w W W' : World} (h : Below B w W) (m : Below B w W → Below B w W' := by intro h_; repeat (first | (with_reducible first | exact h_ | apply below_alloc | apply pw_below_drewN | apply below_drew1 | refine below_set ?_ (Aside0.out (by assumption))) | exact h_)) : Below B w W' := m h
/-- What is known of a row of the call's own, over new blocks and draws. -/
theorem bC {α : Type} {d : Kd α} {e base : Nat} {W W' : World} {ok : Nat → Prop} {v : Value} {xs : List α} (h : d.R e W base ok v xs) (m : d.R e W base ok v xs → d.R e W' base ok v xs := by intro h_; (with_reducible repeat (first | apply Kd.R_alloc | apply Kd.R_drewN | apply Kd.R_drew)); exact h_) : d.R e W' base ok v xs := m h
/-- What is known of a row that is read, over new blocks and draws. -/
theorem bD {q p : Prop} (h : q) (m : q → p := by intro h_; repeat (first | exact h_ | (with_reducible refine Kd.C_alloc ?_ _) | (with_reducible refine Kd.C_drewN ?_ _) | (with_reducible refine Kd.C_drew ?_))) : p := m h
/-- Set aside. -/
theorem am {p : Prop} (h : p) : Aside0 p := ⟨h⟩
/-- Two forms of one thing. -/
theorem bE {p : Prop} (h : p := by (try simp only [List.map_toArray, List.map_cons, List.map_nil]); first | done | rfl | (simp only [List.length_drop, List.length_take]; rfl)) : p := h
theorem rM {α : Type} {d : Kd α} {e base : Nat} {W : World} {ok ok' : Nat → Prop} {v : Value} {xs : List α} (h : d.R e W base ok v xs) (m : ∀ k, ok k → ok' k := by intro _ hk; first | exact True.intro | exact hk | exact hk.1 | exact hk.1.1 | (revert hk; simp only [and_imp]; intros; repeat' (first | (with_reducible assumption) | apply And.intro | assumption))) : d.R e W base ok' v xs := Kd.R_mono h m
theorem rS {α : Type} {d : Kd α} {e base : Nat} {w : World} {ok ok' : Nat → Prop} {v : Value} {xs : List α} {g t : Nat} {cells : Array Value} {u0 u1 : Value} (h : d.R e w base ok v xs) (hb : w.heap[g]? = some (.cells cells t (0, 0))) (ht : ∀ q, q ∈ e :: d.E → q ≠ t := by decide) (m : ∀ k, ok k ∧ k ≠ g → ok' k := by intro _ hk; first | exact True.intro | exact hk | exact hk.1 | exact hk.1.1 | (revert hk; simp only [and_imp]; intros; repeat' (first | (with_reducible assumption) | apply And.intro | assumption))) : d.R e ((w.setCell ⟨g, 0, none⟩ u0).setCell ⟨g, 1, none⟩ u1) base ok' v xs :=
  Kd.R_mono (Kd.R_far (p := ⟨g, 1, none⟩) (Kd.R_far (p := ⟨g, 0, none⟩) (Kd.R_types h hb ht) (fun _ hk => hk.2) u0) (fun _ hk => hk.2) u1) m
theorem qReok {α : Type} {d : Kd α} {e base : Nat} {W : World} {ok1 ok : Nat → Prop} {v : Value} {xs : List α} (hE : d.E = []) (h : d.Q e W base ok1 v xs) (hok : ∀ k, v.ownBlock = some k → ok k) : d.Q e W base ok v xs := Kd.Q_mono (Kd.Q_tight hE h) (fun k hk => hok k hk.symm)
theorem bG {W : World} {g b : Nat} {o : Option Obj} {u v : Value} (h : W.heap[g]? = o) (n : g ≠ b) : ((W.setCell ⟨b, 0, none⟩ u).setCell ⟨b, 1, none⟩ v).heap[g]? = o := by
  subst h
  rw [Below.heap_setCell _ _ _ _ n, Below.heap_setCell _ _ _ _ n]
abbrev NB (k : Nat) (v : Value) : Prop := some k ≠ v.ownBlock

-- the values' own types

end Go.Proofs.Ytaopbkbjfmfcdaa.P
