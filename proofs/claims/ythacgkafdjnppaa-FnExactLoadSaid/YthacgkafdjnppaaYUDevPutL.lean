/- Plain facts: the program's read of a device and the reference's put the same sectors into the same bytes. -/
import Derived.Test.YthacgkafdjnppaaYUDevEq
namespace Go.Proofs.Ythacgkafdjnppaa.YU
open Go.RowKit Go.Proofs.Ythacgkafdjnppaa.Num Go.Proofs.Ythacgkafdjnppaa.Loops Go.Proofs.Ythacgkafdjnppaa.XU Go.Proofs.YthacgkafdjnppaaW.PrintWords Go.Proofs.YthacgkafdjnppaaW.PrintLast Go.Proofs.Ythacgkafdjnppaa.OpenCopy
theorem putL_length (l s : List Int) (i : Nat) (hs : s.length = 32) : (putL l i s).length = max l.length (32 * (i + 1)) := by
  unfold putL
  simp only [List.length_append, List.length_take, List.length_drop, List.length_replicate, hs]
  omega
def putAll : List Int → List S65 → List Int
  | x, [] => x
  | x, s :: r => putAll (putL x s.f0.toNat s.f1) r
theorem putAll_length (l : List S65) : ∀ x : List Int, (∀ s ∈ l, secB s = true) → x.length % 32 = 0 → x.length ≤ 4096 → (putAll x l).length ≤ 4096 := by
  induction l with
  | nil => intro x _ _ h; exact h
  | cons s r ih =>
    intro x h h1 h2
    have hs := h s (List.mem_cons_self ..)
    simp only [secB, Bool.and_eq_true, decide_eq_true_eq] at hs
    have hl := putL_length x s.f1 s.f0.toNat hs.2.2
    exact ih _ (fun t ht => h t (List.mem_cons_of_mem _ ht)) (by omega) (by omega)
theorem spec_readD (h : List Int) (l : List S65) (hn : l.length ≤ 4096) (hok : ∀ s ∈ l, secB s = true) (d : Nat) : ∀ (i : Nat) (x : List Int), i + d = l.length → x.length % 32 = 0 → x.length ≤ 4096 → Ev (fun k => spec_l01Read.l0 k x (i : Int) h l) (putAll x (l.drop i)) := by
  induction d with
  | zero =>
    intro i x hd h1 h2
    rw [List.drop_of_length_le (by omega)]
    refine Ev.step (f := fun _ => some x) (fun k => ?_) (Ev.now _)
    simp only [spec_l01Read.l0]; rw [if_neg (by omega)]
  | succ d ih =>
    intro i x hd h1 h2
    have hs := hok _ (getD_mem l z65 i (by omega))
    simp only [secB, Bool.and_eq_true, decide_eq_true_eq] at hs
    have hl := putL_length x (l.getD i z65).f1 (l.getD i z65).f0.toNat hs.2.2
    rw [drop_cons l z65 i (by omega)]
    have := ih (i + 1) _ (by omega) (show (putL x (l.getD i z65).f0.toNat (l.getD i z65).f1).length % 32 = 0 by omega) (by omega)
    refine Ev.step (fun k => ?_) this
    simp only [spec_l01Read.l0]
    rw [if_pos (by omega), if_pos (by omega), rdB]
    unfold spec_l01Put.f
    rw [if_pos ⟨hs.1, hs.2.1, hs.2.2, by omega, h1⟩, Option.bind_some, inc i (by omega)]
theorem impl_readD (l : List S65) (hn : l.length ≤ 4096) (hok : ∀ s ∈ l, secB s = true) (d : Nat) : ∀ (i : Nat) (x : List Int), i + d = l.length → x.length % 32 = 0 → x.length ≤ 4096 → Ev (fun k => impl_Device_read.l0 k x l (l.length : Int) (i : Int)) (putAll x (l.drop i)) := by
  induction d with
  | zero =>
    intro i x hd h1 h2
    rw [List.drop_of_length_le (by omega)]
    refine Ev.step (f := fun _ => some x) (fun k => ?_) (Ev.now _)
    simp only [impl_Device_read.l0]; rw [if_neg (by omega)]
  | succ d ih =>
    intro i x hd h1 h2
    have hs := hok _ (getD_mem l z65 i (by omega))
    simp only [secB, Bool.and_eq_true, decide_eq_true_eq] at hs
    have hl := putL_length x (l.getD i z65).f1 (l.getD i z65).f0.toNat hs.2.2
    rw [drop_cons l z65 i (by omega)]
    have := ih (i + 1) _ (by omega) (show (putL x (l.getD i z65).f0.toNat (l.getD i z65).f1).length % 32 = 0 by omega) (by omega)
    refine Ev.step (fun k => ?_) this
    simp only [impl_Device_read.l0]
    rw [if_pos (by omega), if_pos (by omega), if_pos (by omega), rdB]
    unfold impl_put.f
    rw [if_pos ⟨hs.1, hs.2.1, hs.2.2, by omega⟩, Option.bind_some, inc i (by omega)]
theorem dev_parts {h : List Int} {l : List S65} (hd : devB h l = true) : h.length % 32 = 0 ∧ h.length ≤ 4096 ∧ l.length ≤ 4096 ∧ ∀ s ∈ l, secB s = true := by
  simp only [devB, Bool.and_eq_true, decide_eq_true_eq, List.all_eq_true] at hd
  exact ⟨by omega, by omega, by omega, hd.2.2.2⟩
theorem specRead_is {h : List Int} {l : List S65} (hd : devB h l = true) : Ev (fun k => spec_l01Read.f k h l) (putAll h l) := by
  obtain ⟨a, b, c, d⟩ := dev_parts hd
  unfold spec_l01Read.f
  simp only [Option.bind_some]
  refine ev_pos (by simp; omega) ?_
  exact spec_readD h l c d l.length 0 h (by omega) a b
theorem implRead_is {h : List Int} {l : List S65} (hd : devB h l = true) : Ev (fun k => impl_Device_read.f k h l) (putAll h l) := by
  obtain ⟨a, b, c, d⟩ := dev_parts hd
  unfold impl_Device_read.f slices_Clone_byte_byte.f
  rw [if_pos (by omega)]
  exact impl_readD l c d l.length 0 h (by omega) a b
end Go.Proofs.Ythacgkafdjnppaa.YU
