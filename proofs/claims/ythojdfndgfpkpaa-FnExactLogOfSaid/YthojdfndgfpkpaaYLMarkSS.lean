/- Plain facts on the laws' marks of rows of bytes: compared, marked and held; no condition but sizes below 2 to the 20. -/
import Derived.Test.YthojdfndgfpkpaaYLMark
import Derived.Test.YthojdfndgfpkpaaYLoops
namespace Go.Proofs.Ythojdfndgfpkpaa.YL
open Go.RowKit Go.Proofs.Ythojdfndgfpkpaa.Num Go.Proofs.Ythojdfndgfpkpaa.Loops Go.Proofs.Ythojdfndgfpkpaa.XL Go.Proofs.YthojdfndgfpkpaaW.PrintWords Go.Proofs.YthojdfndgfpkpaaW.PrintLast

theorem rdSS (l : List (List Int)) (i : Nat) : rd_L2 l (i : Int) = l.getD i [] := by simp [rd_L2]

theorem eqByteSS_same (l : List (List Int)) (hn : l.length ≤ 1048576) (hw : ∀ s ∈ l, s.length ≤ 1048576) : Ev (fun k => laws_eqByteSS.f k l l) true := by
  unfold laws_eqByteSS.f
  simp only [if_true]
  refine up (fun k i => laws_eqByteSS.l0 k l l (i : Int)) true l.length ?_ ?_
  · refine Ev.step (f := fun _ => some true) (fun k => ?_) (Ev.now _)
    simp only [laws_eqByteSS.l0]
    rw [if_neg (by omega)]
  · intro i hi hev
    refine Ev.step (fun k => by simp only [laws_eqByteSS.l0]; rw [if_pos (show (i : Int) < (l.length : Int) by omega), if_pos (show 0 ≤ (i : Int) by omega), if_pos (show (i : Int) < (l.length : Int) by omega), rdSS]) ?_
    refine Ev.bind (eqByteS_same _ (by have := hw _ (getD_mem l [] i hi); omega)) ?_
    simp only [if_true]
    rw [inc i (by omega)]
    exact hev

/-- rows marked from a number on -/
def mkL : List (List Int) → Int → List (List Int)
  | [], _ => []
  | l :: ls, a => markL a l.length :: mkL ls (a + l.length)
def tot : List (List Int) → Nat
  | [] => 0
  | l :: ls => l.length + tot ls
theorem mkL_length (L : List (List Int)) : ∀ a, (mkL L a).length = L.length := by
  induction L with
  | nil => intro a; rfl
  | cons l L ih => intro a; simp [mkL, ih]
theorem tot_le (L : List (List Int)) (hw : ∀ s ∈ L, s.length ≤ 1048576) : tot L ≤ L.length * 1048576 := by
  induction L with
  | nil => simp [tot]
  | cons l L ih =>
    have h1 := hw l (by simp)
    have h2 := ih (fun s hs => hw s (by simp [hs]))
    simp only [tot, List.length_cons]
    omega

theorem mark_l0 (L : List (List Int)) : ∀ (P : List (List Int)) (a : Int), 0 ≤ a → a + tot L < 1099511627776 → P.length + L.length ≤ 1048576 → (∀ s ∈ L, s.length ≤ 1048576) →
    Ev (fun k => laws_markByteSS.l0 k (P ++ L) a (P.length : Int)) (a + tot L, P ++ mkL L a) := by
  induction L with
  | nil =>
    intro P a h0 h1 hn hw
    refine Ev.step (f := fun _ => some (a, P ++ [])) (fun k => ?_) ?_
    · simp only [laws_markByteSS.l0]; rw [if_neg (by simp)]
    · simp only [tot, mkL]
      refine Ev.eq (Ev.now _) ?_
      simp
  | cons l L ih =>
    intro P a h0 h1 hn hw
    have hl := hw l (by simp)
    simp only [List.length_cons, tot] at hn h1
    have e1 : (P ++ l :: L).getD P.length [] = l := by simp [List.getD_eq_getElem?_getD]
    have e2 : (P ++ l :: L).set P.length (markL a l.length) = (P ++ [markL a l.length]) ++ L := by simp
    have hlen : (P.length : Int) < ((P ++ l :: L).length : Int) := by simp; omega
    refine Ev.step (fun k => by simp only [laws_markByteSS.l0]; rw [if_pos hlen, if_pos (show 0 ≤ (P.length : Int) by omega), Int.toNat_natCast, e1]) ?_
    refine Ev.bind (markByteS l a h0 (by omega) (by omega)) ?_
    have := ih (P ++ [markL a l.length]) (a + l.length) (by omega) (by omega) (by simp; omega) (fun s hs => hw s (by simp [hs]))
    simp only [e2]
    rw [inc P.length (by omega)]
    refine Ev.eq (Ev.congr (fun k => ?_) this) ?_
    · simp
    · simp [mkL, tot]; omega

theorem markByteSS (L : List (List Int)) (a : Int) (h0 : 0 ≤ a) (h1 : a + tot L < 1099511627776) (hn : L.length ≤ 1048576) (hw : ∀ s ∈ L, s.length ≤ 1048576) : Ev (fun k => laws_markByteSS.f k L a) (a + tot L, mkL L a) := by
  have := mark_l0 L [] a h0 h1 (by simpa using hn) hw
  simpa [laws_markByteSS.f] using this

theorem held_l0 (L : List (List Int)) : ∀ (P : List (List Int)) (a : Int), 0 ≤ a → a + tot L < 1099511627776 → P.length + L.length ≤ 1048576 → (∀ s ∈ L, s.length ≤ 1048576) →
    Ev (fun k => laws_heldByteSS.l0 k (P ++ mkL L a) a (P.length : Int)) (a + tot L) := by
  induction L with
  | nil =>
    intro P a h0 h1 hn hw
    refine Ev.step (f := fun _ => some a) (fun k => ?_) ?_
    · simp only [laws_heldByteSS.l0]; rw [if_neg (by simp [mkL])]
    · refine Ev.eq (Ev.now _) ?_
      simp [tot]
  | cons l L ih =>
    intro P a h0 h1 hn hw
    have hl := hw l (by simp)
    simp only [List.length_cons, tot] at hn h1
    have e1 : (P ++ mkL (l :: L) a).getD P.length [] = markL a l.length := by simp [List.getD_eq_getElem?_getD, mkL]
    have hlen : (P.length : Int) < ((P ++ mkL (l :: L) a).length : Int) := by simp [mkL]; omega
    refine Ev.step (fun k => by simp only [laws_heldByteSS.l0]; rw [if_pos hlen, if_pos (show 0 ≤ (P.length : Int) by omega), rdSS, e1]) ?_
    refine Ev.bind (heldByteS a l.length h0 (by omega) (by omega)) ?_
    simp only [if_neg (show ¬ (a + (l.length : Int)) < 0 by omega)]
    have := ih (P ++ [markL a l.length]) (a + l.length) (by omega) (by omega) (by simp; omega) (fun s hs => hw s (by simp [hs]))
    rw [inc P.length (by omega)]
    refine Ev.eq (Ev.congr (fun k => ?_) this) ?_
    · simp [mkL]
    · simp [tot]; omega
theorem heldByteSS (L : List (List Int)) (a : Int) (h0 : 0 ≤ a) (h1 : a + tot L < 1099511627776) (hn : L.length ≤ 1048576) (hw : ∀ s ∈ L, s.length ≤ 1048576) : Ev (fun k => laws_heldByteSS.f k (mkL L a) a) (a + tot L) := by
  have := held_l0 L [] a h0 h1 (by simpa using hn) hw
  simpa [laws_heldByteSS.f] using this
end Go.Proofs.Ythojdfndgfpkpaa.YL
