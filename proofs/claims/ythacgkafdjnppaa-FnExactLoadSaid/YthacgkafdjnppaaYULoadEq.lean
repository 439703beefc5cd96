/- Plain facts: the store of a device is what its log applies, batch by batch, for the program and for the reference. -/
import Derived.Test.YthacgkafdjnppaaYUDevPutL
import Derived.Test.YthacgkafdjnppaaYUScanEq3
import Derived.Test.YthacgkafdjnppaaYUReadEq
namespace Go.Proofs.Ythacgkafdjnppaa.YU
open Go.RowKit Go.Proofs.Ythacgkafdjnppaa.Num Go.Proofs.Ythacgkafdjnppaa.Loops Go.Proofs.Ythacgkafdjnppaa.XU Go.Proofs.YthacgkafdjnppaaW.PrintWords Go.Proofs.YthacgkafdjnppaaW.PrintLast Go.Proofs.Ythacgkafdjnppaa.OpenCopy
theorem putL_bytes (l s : List Int) (i : Nat) (h1 : ∀ x ∈ l, 0 ≤ x ∧ x < 256) (h2 : ∀ x ∈ s, 0 ≤ x ∧ x < 256) : ∀ x ∈ putL l i s, 0 ≤ x ∧ x < 256 := by
  have h3 : ∀ x ∈ l ++ List.replicate (32 * (i + 1) - l.length) 0, 0 ≤ x ∧ x < 256 := by
    intro x hx
    rcases List.mem_append.1 hx with hx | hx
    · exact h1 x hx
    · have := List.eq_of_mem_replicate hx; omega
  intro x hx
  unfold putL at hx
  rcases List.mem_append.1 hx with hx | hx
  · exact h3 x (List.mem_of_mem_take hx)
  · rcases List.mem_append.1 hx with hx | hx
    · exact h2 x hx
    · exact h3 x (List.mem_of_mem_drop hx)
theorem putAll_bytes (l : List S65) : ∀ x : List Int, (∀ s ∈ l, ∀ y ∈ s.f1, 0 ≤ y ∧ y < 256) → (∀ y ∈ x, 0 ≤ y ∧ y < 256) → ∀ y ∈ putAll x l, 0 ≤ y ∧ y < 256 := by
  induction l with
  | nil => intro x _ h; exact h
  | cons s r ih =>
    intro x h h1
    exact ih _ (fun t ht => h t (List.mem_cons_of_mem _ ht)) (putL_bytes x s.f1 s.f0.toNat h1 (h s (List.mem_cons_self ..)))
theorem rdL (l : List (List Int)) (i : Nat) : rd_L2 l (i : Int) = l.getD i [] := by simp [rd_L2]
theorem loads (P : List (List Int)) (hP : P.length ≤ 65536) (hl : ∀ s ∈ P, s.length ≤ 2000 ∧ ∀ y ∈ s, 0 ≤ y ∧ y < 256) (d : Nat) : ∀ (i : Nat) (out : List S51), i + d = P.length → impl_apply.Sorted out → out.length ≤ 100 →
    ∃ R : List S51, Ev (fun k => spec_l03Load.l0 k P out (i : Int)) R ∧ Ev (fun k => impl_Device_load.l0 k out P (P.length : Int) (i : Int)) R ∧ R.length ≤ 100 := by
  induction d with
  | zero =>
    intro i out hd hs ho
    refine ⟨out, Ev.step (f := fun _ => some out) (fun k => ?_) (Ev.now _), Ev.step (f := fun _ => some out) (fun k => ?_) (Ev.now _), ho⟩
    · simp only [spec_l03Load.l0]; rw [if_neg (by omega)]
    · simp only [impl_Device_load.l0]; rw [if_neg (by omega)]
  | succ d ih =>
    intro i out hd hs ho
    obtain ⟨p1, p2⟩ := hl _ (getD_mem P [] i (by omega))
    have hr := spec_read (P.getD i []) p2 (by omega)
    have hi := impl_read (P.getD i []) p2 (by omega)
    by_cases c : (readV (P.getD i [])).2 = true
    · rw [if_pos c] at hi
      have hm := readV_len _ c
      generalize readV (P.getD i []) = v at *
      have ha : spec_l03Apply.f out v.1 = some (spec_l03Apply.applied out v.1) := by unfold spec_l03Apply.f; rw [if_pos ⟨by omega, by omega⟩]
      have hb : impl_apply.f out v.1 = some (spec_l03Apply.applied out v.1, decide ((spec_l03Apply.applied out v.1).length ≤ 100)) := by unfold impl_apply.f; rw [if_pos ⟨by omega, by omega, hs⟩]
      have hso := impl_apply.applied_sorted hs v.1
      by_cases c2 : (spec_l03Apply.applied out v.1).length ≤ 100
      · obtain ⟨R, e1, e2, e3⟩ := ih (i + 1) _ (by omega) hso c2
        refine ⟨R, ?_, ?_, e3⟩
        · refine Ev.step (fun k => by simp only [spec_l03Load.l0]; rw [if_pos (by omega), if_pos (by omega), rdL]) (Ev.bind hr ?_)
          refine Ev.congr (fun k => ?_) e1
          rw [if_pos c, ha, Option.bind_some, if_neg (by omega), inc i (by omega)]
        · refine Ev.step (fun k => ?_) e2
          simp only [impl_Device_load.l0]
          rw [if_pos (by omega), if_pos (by omega), if_pos (by omega), rdL, hi, Option.bind_some, if_pos rfl, hb, Option.bind_some, if_pos (by simp [c2]), inc i (by omega)]
      · refine ⟨out, ?_, ?_, ho⟩
        · refine Ev.step (fun k => by simp only [spec_l03Load.l0]; rw [if_pos (by omega), if_pos (by omega), rdL]) (Ev.bind hr ?_)
          refine Ev.congr (f := fun _ => some out) (fun k => ?_) (Ev.now _)
          rw [if_pos c, ha, Option.bind_some, if_pos (by omega)]
        · refine Ev.step (f := fun _ => some out) (fun k => ?_) (Ev.now _)
          simp only [impl_Device_load.l0]
          rw [if_pos (by omega), if_pos (by omega), if_pos (by omega), rdL, hi, Option.bind_some, if_pos rfl, hb, Option.bind_some, if_neg (by simp [c2])]
    · rw [if_neg c] at hi
      refine ⟨out, ?_, ?_, ho⟩
      · refine Ev.step (fun k => by simp only [spec_l03Load.l0]; rw [if_pos (by omega), if_pos (by omega), rdL]) (Ev.bind hr ?_)
        refine Ev.congr (f := fun _ => some out) (fun k => ?_) (Ev.now _)
        rw [if_neg c]
      · refine Ev.step (f := fun _ => some out) (fun k => ?_) (Ev.now _)
        simp only [impl_Device_load.l0]
        rw [if_pos (by omega), if_pos (by omega), if_pos (by omega), rdL, hi, Option.bind_some, if_neg (by decide)]
theorem load_both (h : List Int) (l : List S65) (hn : l.length ≤ 1048576) (hh : ∀ y ∈ h, 0 ≤ y ∧ y < 256) (hl : ∀ s ∈ l, ∀ y ∈ s.f1, 0 ≤ y ∧ y < 256) : ∃ (R : List S51) (c : Int), Ev (fun k => spec_Load.f k h l) (R, c) ∧ Ev (fun k => impl_Load.f k h l) (R, c) ∧ R.length ≤ 100 := by
  unfold spec_Load.f spec_LogOf.f impl_Load.f
  by_cases c : devB h l = true
  · obtain ⟨a, b, _, d⟩ := dev_parts c
    have hlen := putAll_length l h d a b
    have hpb := putAll_bytes l h hl hh
    obtain ⟨P, r1, r2, r3, r4⟩ := scan_both (putAll h l) hpb (by omega)
    obtain ⟨R, e1, e2, e3⟩ := loads P.1 (by omega) (fun s hs => ⟨(r4 s hs).1, fun y hy => hpb y ((r4 s hs).2 y hy)⟩) P.1.length 0 [] (by omega) List.Pairwise.nil (by simp)
    refine ⟨R, 0, Ev.bind (a := (P.1, 0)) (Ev.bind (spec_device h l hn) ?_) ?_, ?_, e3⟩
    · rw [c]; exact ev_pos rfl (Ev.bind (specRead_is c) (Ev.bind r2 (Ev.now _)))
    · exact ev_pos rfl (Ev.bind e1 (Ev.now _))
    · simp only [impl_device, Option.bind_some]
      refine ev_pos c (Ev.bind (a := R) ?_ (Ev.now _))
      unfold impl_Device_load.f
      exact Ev.bind (implRead_is c) (Ev.bind r1 e2)
  · refine ⟨[], 1, Ev.bind (a := ([], 1)) (Ev.bind (spec_device h l hn) ?_) ?_, ?_, by simp⟩
    · exact ev_neg c (Ev.now _)
    · exact ev_neg (by decide) (Ev.now _)
    · simp only [impl_device, Option.bind_some]
      exact ev_neg c (Ev.now _)
end Go.Proofs.Ythacgkafdjnppaa.YU
