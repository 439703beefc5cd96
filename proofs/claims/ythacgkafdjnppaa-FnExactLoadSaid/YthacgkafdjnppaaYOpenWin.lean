/- Plain facts on rows that a call has made: the blocks that they may lead to lie in a window of numbers; what is made elsewhere, or written in another window, leaves them as they are. -/
import Derived.Test.YthacgkafdjnppaaVAll
import Derived.Test.YthacgkafdjnppaaYOpen
namespace Go.Proofs.Ythacgkafdjnppaa.OpenWin
open Go.RowKit Go.Proofs.YthacgkafdjnppaaW.PrintWords Go.Proofs.YthacgkafdjnppaaW.PrintLast Go.Proofs.YthacgkafdjnppaaW.PrintMore
section
variable {α : Type} {d : Kd α} {e : Nat} {w w1 : World} {B lo hi lo2 hi2 : Nat} {v : Value} {xs : List α}
def win (lo hi : Nat) : Nat → Prop := fun k => lo ≤ k ∧ k < hi
structure SW (d : Kd α) (e : Nat) (w : World) (B lo hi : Nat) (v : Value) (xs : List α) : Prop where
  s : Kd.S d e w B (win lo hi) v xs
  le : hi ≤ w.heap.size
structure RW (d : Kd α) (e : Nat) (w : World) (B lo hi : Nat) (v : Value) (xs : List α) : Prop where
  r : Kd.R d e w B (win lo hi) v xs
  le : hi ≤ w.heap.size
theorem SW.of (h : Kd.S d e w1 w.heap.size (fun _ => True) v xs) (hB : B ≤ w.heap.size) : SW d e w1 B w.heap.size w1.heap.size v xs := by
  refine ⟨?_, Nat.le_refl _⟩
  obtain ⟨f, h2⟩ := Kd.S_mono (ok' := win w.heap.size w1.heap.size) (Kd.S_bound h) (fun _ hk => ⟨hk.2.1, hk.2.2.1⟩)
  exact ⟨f, Kd.R_lower h2 hB⟩
theorem RW.of (h : Kd.R d e w1 w.heap.size (fun _ => True) v xs) (hB : B ≤ w.heap.size) : RW d e w1 B w.heap.size w1.heap.size v xs :=
  ⟨Kd.R_lower (Kd.R_mono (Kd.R_bound h) (fun _ hk => ⟨hk.2.1, hk.2.2.1⟩)) hB, Nat.le_refl _⟩
theorem SW.below (h : SW d e w B lo hi v xs) (hb : Below w.heap.size w w1) : SW d e w1 B lo hi v xs := ⟨Kd.S_below h.s hb, Nat.le_trans h.le hb.size⟩
theorem RW.below (h : RW d e w B lo hi v xs) (hb : Below w.heap.size w w1) : RW d e w1 B lo hi v xs := ⟨Kd.R_below h.r hb, Nat.le_trans h.le hb.size⟩
theorem SW.drewN (h : SW d e w B lo hi v xs) (m : Nat) : SW d e (w.drewN m) B lo hi v xs := h.below (pw_below_drewN (Below.refl _ _) m)
theorem RW.drewN (h : RW d e w B lo hi v xs) (m : Nat) : RW d e (w.drewN m) B lo hi v xs := h.below (pw_below_drewN (Below.refl _ _) m)
theorem SW.kept (h : SW d e w B lo hi v xs) {P : Nat → Prop} (hk : Kept w w1 P) (hP : ∀ k, P k → win lo2 hi2 k) (hd : hi ≤ lo2 ∨ hi2 ≤ lo) : SW d e w1 B lo hi v xs :=
  ⟨Kd.S_kept h.s hk (fun _ h1 h2 => by have := hP _ h2; unfold win at *; omega), Nat.le_trans h.le hk.1⟩
theorem RW.kept (h : RW d e w B lo hi v xs) {P : Nat → Prop} (hk : Kept w w1 P) (hP : ∀ k, P k → win lo2 hi2 k) (hd : hi ≤ lo2 ∨ hi2 ≤ lo) : RW d e w1 B lo hi v xs :=
  ⟨Kd.R_kept h.r hk (fun _ h1 h2 => by have := hP _ h2; unfold win at *; omega), Nat.le_trans h.le hk.1⟩
theorem SW.reads (h : SW d e w B lo hi v xs) : ∃ A c, v = .slice A xs.length c ∧ xs.length ≤ c ∧ d.C w A xs.length xs := Kd.S_reads h.s
theorem RW.reads (h : RW d e w B lo hi v xs) : ∃ A c, v = .slice A xs.length c ∧ xs.length ≤ c ∧ d.C w A xs.length xs := Kd.R_reads h.r
end
end Go.Proofs.Ythacgkafdjnppaa.OpenWin
