/- What an argument that is read as data comes to, as the printed kinds tell it; no condition is set on any claim. -/
import Derived.Test.YtaopbkbjfmfcdaaZSdWWords
import Derived.ChangeArms
import Derived.Deep.Slices
import Derived.WideShapes
import Derived.DataReads
import Derived.OpenShut
namespace Go.Proofs.Ytaopbkbjfmfcdaa.Open
open Go.ChangeShapes Go.WideShapes Go.RowKit Go.Proofs.YtaopbkbjfmfcdaaW.PrintWords

/-- What reads as data of type t is of the kind d, and good. -/
def Opens {α : Type} (P : Program) (t : TypeId) (d : Kd α) (good : α → Prop) : Prop :=
  ∀ (H : Type) (enc : TypeId × Value → H) (w : World) (base : Nat) (spare : Nat → Bool) (held : Bool) (fuel : Nat) (cs : List Value) (y : DataW H × List MemPlace),
    DataW.trod enc P w base spare held fuel t cs = some y → ∃ x, d.K w x cs ∧ good x

theorem opens_int {P : Program} {t : TypeId} {k : IntKind} (ht : P.underlying t = some (.int k)) : Opens P t (Kd.int k) (fun n => (Lit.int k n).wf = true) := by
  intro H enc w base spare held fuel cs y h
  obtain ⟨n, hcs, _, hw⟩ := DataW.trod_int ht h
  exact ⟨n, hcs, hw⟩

theorem opens_slice {α : Type} {P : Program} {t e : TypeId} {d : Kd α} {g : α → Prop} (ht : P.underlying t = some (.slice e)) (hc : P.cellsOf e = d.sz) (ho : Opens P e d g) :
    Opens P t (Kd.slice e d) (fun l => l.length ≤ maxLen ∧ ∀ x, x ∈ l → g x) := by
  intro H enc w base spare held fuel cs y h
  rcases Go.Deep.open_slice ht h with ⟨rfl, _⟩ | ⟨a, len, cap, m, n, D, Pl, rfl, _, hl, hm, hmm, _, hx⟩
  · exact ⟨[], ⟨none, 0, rfl, Nat.le_refl _, rfl, by simp, fun h => absurd h (by simp)⟩, by simp, by simp⟩
  · have hlm : len ≤ m := by rw [hmm]; split <;> omega
    have hlen : len ≤ 9223372036854775807 := by have := hm; unfold maxLen at this; omega
    have hx' : ∀ i, i < len → ∃ x c, c.length = d.sz ∧ d.K w x c ∧ g x ∧ ∀ j u, c[j]? = some u → w.cell? (a.add (i * d.sz + j)) = some u := by
      intro i hi
      obtain ⟨cs', h1, h2⟩ := hx i (by omega)
      obtain ⟨x, hk, hg⟩ := ho _ _ _ _ _ _ _ _ _ h2
      refine ⟨x, cs', d.K_len hk, hk, hg, fun j u hu => ?_⟩
      obtain ⟨_, hl2, hget⟩ := World.cells?_some h1
      have hj : j < P.cellsOf e := by rw [← hl2]; exact (List.getElem?_eq_some_iff.1 hu).1
      have := hget j hj
      rw [hu, Go.Deep.add_add, hc] at this
      exact this
    have hl' : ∀ k, k ≤ len → ∃ l : List α, l.length = k ∧ (∀ x, x ∈ l → g x) ∧ ∀ i x, l[i]? = some x → ∃ c, c.length = d.sz ∧ d.K w x c ∧ ∀ j u, c[j]? = some u → w.cell? (a.add (i * d.sz + j)) = some u := by
      intro k
      induction k with
      | zero => exact fun _ => ⟨[], rfl, by simp, by simp⟩
      | succ k ih =>
        intro hk
        obtain ⟨l, h1, h2, h3⟩ := ih (by omega)
        obtain ⟨x, c, c1, c2, c3, c4⟩ := hx' k (by omega)
        refine ⟨l ++ [x], by simp [h1], ?_, ?_⟩
        · intro z hz
          rcases List.mem_append.1 hz with hz | hz
          · exact h2 z hz
          · rw [List.mem_singleton.1 hz]; exact c3
        · intro i z hz
          rcases Nat.lt_or_ge i l.length with hi | hi
          · rw [List.getElem?_append_left hi] at hz
            exact h3 i z hz
          · rw [List.getElem?_append_right hi] at hz
            have : i - l.length = 0 := by
              have := (List.getElem?_eq_some_iff.1 hz).1
              simp at this
              omega
            have hi' : i = k := by omega
            subst hi'
            rw [this] at hz
            obtain rfl : x = z := by simpa using hz
            exact ⟨c, c1, c2, c4⟩
    obtain ⟨l, h1, h2, h3⟩ := hl' len (Nat.le_refl _)
    subst h1
    exact ⟨l, ⟨some a, cap, rfl, hl, rfl, hlen, fun _ => ⟨a, rfl, h3⟩⟩, by have := hl; omega, h2⟩

/-- Fields in line, from place off on. -/
def OpensF {α : Type} (P : Program) (off : Nat) (fs : List Field) (d : Kd α) (good : α → Prop) : Prop :=
  ∀ (H : Type) (enc : TypeId × Value → H) (w : World) (base : Nat) (spare : Nat → Bool) (held : Bool) (n : Nat) (cs : List Value), off + d.sz ≤ cs.length →
    (∀ f, f ∈ fs → ∃ y : DataW H × List MemPlace, DataW.trod enc P w base spare held n f.type ((cs.drop f.offset).take (P.cellsOf f.type)) = some y) →
    ∃ x, d.K w x ((cs.drop off).take d.sz) ∧ good x

theorem opensF_one {α : Type} {P : Program} {off : Nat} {f : Field} {d : Kd α} {g : α → Prop} (ho : f.offset = off) (hc : P.cellsOf f.type = d.sz) (h : Opens P f.type d g) : OpensF P off [f] d g := by
  intro H enc w base spare held n cs _ hf
  obtain ⟨y, hy⟩ := hf f (by simp)
  rw [ho, hc] at hy
  exact h _ _ _ _ _ _ _ _ _ hy

theorem opensF_cons {α β : Type} {P : Program} {off off2 : Nat} {f : Field} {fs : List Field} {d : Kd α} {d2 : Kd β} {g : α → Prop} {g2 : β → Prop} (ho : f.offset = off) (hc : P.cellsOf f.type = d.sz) (ho2 : off + d.sz = off2)
    (h : Opens P f.type d g) (h2 : OpensF P off2 fs d2 g2) : OpensF P off (f :: fs) (Kd.pair d d2) (fun x => g x.1 ∧ g2 x.2) := by
  intro H enc w base spare held n cs hl hf
  have hsz : (Kd.pair d d2).sz = d.sz + d2.sz := rfl
  rw [hsz] at hl
  obtain ⟨y, hy⟩ := hf f (by simp)
  rw [ho, hc] at hy
  obtain ⟨x, hx, hg⟩ := h _ _ _ _ _ _ _ _ _ hy
  obtain ⟨x2, hx2, hg2⟩ := h2 H enc w base spare held n cs (by omega) (fun f' hf' => hf f' (List.mem_cons_of_mem _ hf'))
  refine ⟨(x, x2), ⟨_, _, ?_, hx, hx2⟩, hg, hg2⟩
  rw [hsz, ← ho2, List.take_add, List.drop_drop]

theorem opens_struct {α β : Type} {P : Program} {t : TypeId} {fs : Array Field} {d : Kd α} {g : α → Prop} {f : β → α} {mk : α → β} (ht : P.underlying t = some (.struct fs)) (hc : P.cellsOf t = d.sz) (hmk : ∀ x, f (mk x) = x) (h : OpensF P 0 fs.toList d g) :
    Opens P t (Kd.iso d f) (fun x => g (f x)) := by
  intro H enc w base spare held fuel cs y hy
  obtain ⟨xs, n, _, _, hl, hlen, hf⟩ := DataW.trod_struct ht hy
  obtain ⟨x, hx, hg⟩ := h H enc w base spare held n cs (by omega) (fun f' hf' => by
    obtain ⟨i, hi, rfl⟩ := List.mem_iff_getElem.1 hf'
    have hi' : i < fs.size := by simpa using hi
    have := hf i fs[i] (Array.getElem?_eq_getElem hi')
    rw [List.getElem?_eq_getElem (by omega)] at this
    exact ⟨_, this⟩)
  rw [List.drop_zero, List.take_of_length_le (by omega)] at hx
  exact ⟨mk x, by show d.K w (f (mk x)) cs; rw [hmk]; exact hx, by show g (f (mk x)); rw [hmk]; exact hg⟩
/-- Element i of an array, as a field. -/
def elemF (e o : Nat) : Field := ⟨ "", e, o, false, "", "", 0⟩
theorem opens_array {α β : Type} {P : Program} {t e : TypeId} {n : Nat} {d : Kd α} {g : α → Prop} {f : β → α} {mk : α → β} (fs : List Field) (ht : P.underlying t = some (.array n e)) (hc : P.cellsOf t = d.sz) (hce : P.cellsOf e = 1) (hmk : ∀ x, f (mk x) = x) (hfs : ∀ f, f ∈ fs → f.type = e ∧ f.offset < n) (h : OpensF P 0 fs d g) :
    Opens P t (Kd.iso d f) (fun x => g (f x)) := by
  intro H enc w base spare held fuel cs y hy
  obtain ⟨xs, m, _, _, hl, hlen, hf⟩ := DataW.trod_array ht hy
  obtain ⟨x, hx, hg⟩ := h H enc w base spare held m cs (by omega) (fun f' hf' => by
    obtain ⟨h1, h2⟩ := hfs f' hf'
    have := hf f'.offset h2
    rw [List.getElem?_eq_getElem (by omega), hce, Nat.mul_one] at this
    rw [h1, hce]
    exact ⟨_, this⟩)
  rw [List.drop_zero, List.take_of_length_le (by omega)] at hx
  exact ⟨mk x, by show d.K w (f (mk x)) cs; rw [hmk]; exact hx, by show g (f (mk x)); rw [hmk]; exact hg⟩
end Go.Proofs.Ytaopbkbjfmfcdaa.Open
