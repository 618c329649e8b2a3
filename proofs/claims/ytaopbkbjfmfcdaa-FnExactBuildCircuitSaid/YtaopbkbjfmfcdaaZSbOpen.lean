/- What an argument that is read as data comes to, as the printed kinds tell it; no condition is set on any claim. -/
import Derived.Test.YtaopbkbjfmfcdaaZSbWWords
import Derived.ChangeArms
import Derived.Deep.Slices
import Derived.WideShapes
import Derived.DataReads
import Derived.OpenShut
namespace Go.Proofs.Ytaopbkbjfmfcdaa.Open
open Go.ChangeShapes Go.WideShapes Go.RowKit Go.Proofs.YtaopbkbjfmfcdaaW.PrintWords

/-- What reads as data of type t is of the kind d, and good. -/
def Opens {α : Type} (P : Program) (t : TypeId) (d : Kd α) (good : α → Prop) : Prop :=
  ∀ (H : Type) (enc : TypeId × Value → H) (w : World) (base : Nat) (spare : Nat → Bool) (held : Bool) (fuel : Nat) (cs : List Value) (y : DataW H × List MemPlace),
    DataW.trod enc P w base spare held fuel t cs = some y → ∃ x, d.K w x cs ∧ good x

theorem opens_int {P : Program} {t : TypeId} {k : IntKind} (ht : P.underlying t = some (.int k)) : Opens P t (Kd.int k) (fun n => (Lit.int k n).wf = true) := by
  intro H enc w base spare held fuel cs y h
  obtain ⟨n, hcs, _, hw⟩ := DataW.trod_int ht h
  exact ⟨n, hcs, hw⟩

/-- Fields in line, from place off on. -/
def OpensF {α : Type} (P : Program) (off : Nat) (fs : List Field) (d : Kd α) (good : α → Prop) : Prop :=
  ∀ (H : Type) (enc : TypeId × Value → H) (w : World) (base : Nat) (spare : Nat → Bool) (held : Bool) (n : Nat) (cs : List Value), off + d.sz ≤ cs.length →
    (∀ f, f ∈ fs → ∃ y : DataW H × List MemPlace, DataW.trod enc P w base spare held n f.type ((cs.drop f.offset).take (P.cellsOf f.type)) = some y) →
    ∃ x, d.K w x ((cs.drop off).take d.sz) ∧ good x

theorem opensF_one {α : Type} {P : Program} {off : Nat} {f : Field} {d : Kd α} {g : α → Prop} (ho : f.offset = off) (hc : P.cellsOf f.type = d.sz) (h : Opens P f.type d g) : OpensF P off [f] d g := by
  intro H enc w base spare held n cs _ hf
  obtain ⟨y, hy⟩ := hf f (by simp)
  rw [ho, hc] at hy
  exact h _ _ _ _ _ _ _ _ _ hy

theorem opensF_cons {α β : Type} {P : Program} {off off2 : Nat} {f : Field} {fs : List Field} {d : Kd α} {d2 : Kd β} {g : α → Prop} {g2 : β → Prop} (ho : f.offset = off) (hc : P.cellsOf f.type = d.sz) (ho2 : off + d.sz = off2)
    (h : Opens P f.type d g) (h2 : OpensF P off2 fs d2 g2) : OpensF P off (f :: fs) (Kd.pair d d2) (fun x => g x.1 ∧ g2 x.2) := by
  intro H enc w base spare held n cs hl hf
  have hsz : (Kd.pair d d2).sz = d.sz + d2.sz := rfl
  rw [hsz] at hl
  obtain ⟨y, hy⟩ := hf f (by simp)
  rw [ho, hc] at hy
  obtain ⟨x, hx, hg⟩ := h _ _ _ _ _ _ _ _ _ hy
  obtain ⟨x2, hx2, hg2⟩ := h2 H enc w base spare held n cs (by omega) (fun f' hf' => hf f' (List.mem_cons_of_mem _ hf'))
  refine ⟨(x, x2), ⟨_, _, ?_, hx, hx2⟩, hg, hg2⟩
  rw [hsz, ← ho2, List.take_add, List.drop_drop]

/-- Element i of an array, as a field. -/
def elemF (e o : Nat) : Field := ⟨ "", e, o, false, "", "", 0⟩
theorem opens_array {α β : Type} {P : Program} {t e : TypeId} {n : Nat} {d : Kd α} {g : α → Prop} {f : β → α} {mk : α → β} (fs : List Field) (ht : P.underlying t = some (.array n e)) (hc : P.cellsOf t = d.sz) (hce : P.cellsOf e = 1) (hmk : ∀ x, f (mk x) = x) (hfs : ∀ f, f ∈ fs → f.type = e ∧ f.offset < n) (h : OpensF P 0 fs d g) :
    Opens P t (Kd.iso d f) (fun x => g (f x)) := by
  intro H enc w base spare held fuel cs y hy
  obtain ⟨xs, m, _, _, hl, hlen, hf⟩ := DataW.trod_array ht hy
  obtain ⟨x, hx, hg⟩ := h H enc w base spare held m cs (by omega) (fun f' hf' => by
    obtain ⟨h1, h2⟩ := hfs f' hf'
    have := hf f'.offset h2
    rw [List.getElem?_eq_getElem (by omega), hce, Nat.mul_one] at this
    rw [h1, hce]
    exact ⟨_, this⟩)
  rw [List.drop_zero, List.take_of_length_le (by omega)] at hx
  exact ⟨mk x, by show d.K w (f (mk x)) cs; rw [hmk]; exact hx, by show g (f (mk x)); rw [hmk]; exact hg⟩
end Go.Proofs.Ytaopbkbjfmfcdaa.Open
