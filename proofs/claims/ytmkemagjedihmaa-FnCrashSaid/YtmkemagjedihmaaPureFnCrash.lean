/- Behind a crash each sector is one that was held or one that was written, and without a kept one all is as it was held; no condition beyond the statement's own. -/
import Derived.Test.YtmkemagjedihmaaYCCrashEq
namespace Go.Proofs.Ytmkemagjedihmaa.Pure
open Go.RowKit Go.Proofs.Ytmkemagjedihmaa.Num Go.Proofs.Ytmkemagjedihmaa.Loops Go.Proofs.Ytmkemagjedihmaa.YC Go.Proofs.Ytmkemagjedihmaa.XC Go.Proofs.Ytmkemagjedihmaa.FldA Go.Proofs.Ytmkemagjedihmaa.FldB Go.Proofs.Ytmkemagjedihmaa.StSrc Go.Proofs.YtmkemagjedihmaaW.PrintWords Go.Proofs.YtmkemagjedihmaaW.PrintLast

theorem wf_u8p {x : Int} (h : (Lit.int .u8 x).wf = true) : 0 ≤ x ∧ x < 256 := by
  simp [Lit.wf, IntKind.min, IntKind.max, IntKind.signed, IntKind.bits] at h
  omega
theorem found_l1 (s : Nat) (y H out : List Int) (l wt : List S32) (hl : l.length ≤ 4096) (hs : s < 1000) (hn : Ev (fun k => laws_FnCrash.l0 k ((s + 1 : Nat) : Int) H l out wt) true) (d : Nat) : ∀ (i : Nat) (b : Bool), i + d = l.length →
    (b = true ∨ ∃ j, i ≤ j ∧ j < l.length ∧ (l.getD j z32).f0 = (s : Int) ∧ (l.getD j z32).f1 = y) → Ev (fun k => laws_FnCrash.l1 k (s : Int) (strOfNums y) b (i : Int) H l out wt) true := by
  induction d with
  | zero =>
    intro i b hd hb
    have hbt : b = true := by
      rcases hb with hb | ⟨j, j1, j2, _⟩
      · exact hb
      · omega
    subst hbt
    refine Ev.step (fun k => ?_) hn
    simp only [laws_FnCrash.l1]
    rw [if_neg (by omega), if_pos True.intro, inc s (by omega)]
  | succ d ih =>
    intro i b hd hb
    cases b with
    | true =>
      refine Ev.step (fun k => ?_) (ih (i + 1) true (by omega) (Or.inl rfl))
      simp only [laws_FnCrash.l1]
      rw [if_pos (by omega), if_pos True.intro, inc i (by omega)]
    | false =>
      rcases hb with hb | ⟨j, j1, j2, j3, j4⟩
      · cases hb
      · by_cases c : (l.getD i z32).f0 = (s : Int)
        · refine Ev.step (fun k => ?_) (ih (i + 1) ((strOfNums (l.getD i z32).f1).toList == (strOfNums y).toList) (by omega) ?_)
          · simp only [laws_FnCrash.l1]
            rw [if_pos (by omega), if_neg (by decide), if_pos (by omega), rdB, if_pos c, inc i (by omega)]
          · by_cases e : i = j
            · subst e
              refine Or.inl ?_
              rw [j4]; exact beq_self_eq_true _
            · exact Or.inr ⟨j, by omega, j2, j3, j4⟩
        · refine Ev.step (fun k => ?_) (ih (i + 1) false (by omega) (Or.inr ⟨j, ?_, j2, j3, j4⟩))
          · simp only [laws_FnCrash.l1]
            rw [if_pos (by omega), if_neg (by decide), if_pos (by omega), rdB, if_neg c, inc i (by omega)]
          · rcases Nat.lt_or_ge i j with h | h
            · omega
            · have : i = j := by omega
              subst this
              exact absurd j3 c
theorem all_l0 (H out : List Int) (l wt : List S32) (hl : l.length ≤ 4096) (hH : H.length % 32 = 0) (ho : out.length % 32 = 0) (ho2 : out.length ≤ 4096)
    (hsec : ∀ s, 32 * (s + 1) ≤ out.length → secAt out s = secAt H s ∨ ∃ j, j < l.length ∧ (l.getD j z32).f0 = (s : Int) ∧ (l.getD j z32).f1 = secAt out s) (d : Nat) :
    ∀ s, 32 * s + 32 * d = out.length → Ev (fun k => laws_FnCrash.l0 k (s : Int) H l out wt) true := by
  induction d with
  | zero =>
    intro s hd
    refine Ev.step (f := fun _ => some true) (fun k => ?_) (Ev.now _)
    simp only [laws_FnCrash.l0]
    rw [w64 (n := (s : Int) * 32) (by omega) (by omega), if_neg (by omega)]
  | succ d ih =>
    intro s hd
    have hy : (out.take (32 * (s + 1))).drop (32 * s) = secAt out s := by unfold secAt; rw [if_pos (by omega)]
    have hb : ∀ b, b = ((strOfNums (secAt out s)).toList == (strOfNums (secAt H s)).toList) → Ev (fun k => laws_FnCrash.j3 k (s : Int) (strOfNums (secAt out s)) b H l out wt) true := by
      intro b hb
      refine Ev.step (fun k => ?_) (found_l1 s (secAt out s) H out l wt hl (by omega) (ih (s + 1) (by omega)) l.length 0 b (by omega) ?_)
      · simp only [laws_FnCrash.j3]; rfl
      · rcases hsec s (by omega) with e | ⟨j, j1, j2, j3⟩
        · refine Or.inl ?_
          rw [hb, e]; exact beq_self_eq_true _
        · exact Or.inr ⟨j, Nat.zero_le _, j1, j2, j3⟩
    refine Ev.step (fun k => ?_) (hb _ rfl)
    simp only [laws_FnCrash.l0]
    rw [w64 (n := (s : Int) * 32) (by omega) (by omega), if_pos (by omega), if_pos (by omega), inc s (by omega), w64 (n := ((s + 1 : Nat) : Int) * 32) (by omega) (by omega), if_pos (by omega), if_pos (by omega), Option.bind_some, if_pos (by decide)]
    rw [show (((s + 1 : Nat) : Int) * 32).toNat = 32 * (s + 1) by omega, show ((s : Int) * 32).toNat = 32 * s by omega, hy]
    by_cases c : ((s + 1 : Nat) : Int) * 32 ≤ (H.length : Int)
    · rw [if_pos c]
      have hz : (H.take (32 * (s + 1))).drop (32 * s) = secAt H s := by unfold secAt; rw [if_pos (by omega)]
      rw [hz]
    · rw [if_neg c]
      have hz : secAt H s = List.replicate 32 0 := by unfold secAt; rw [if_neg (by omega)]
      rw [hz]
theorem FnCrash : laws_FnCrash.Pure := by
  intro l0 l1 _ _ hw0 _ _ hw1
  refine Ev.rounds (g := fun k => laws_FnCrash.f k l0 l1) ?_
  have h0 : okB l0 = true := by
    rw [okB, List.all_eq_true]
    intro x hx
    have h := wf_u8p (hw0 x hx)
    rw [decide_eq_true h.1, decide_eq_true h.2]; rfl
  have h1 : okB l1 = true := by
    rw [okB, List.all_eq_true]
    intro x hx
    have h := wf_u8p (hw1 x hx)
    rw [decide_eq_true h.1, decide_eq_true h.2]; rfl
  have ht : Ev (fun k => laws_FnCrash.j0 k l0 l1 true) true := Ev.step (f := fun _ => some true) (fun k => by simp only [laws_FnCrash.j0, if_true]) (Ev.now _)
  unfold laws_FnCrash.f
  by_cases g0 : (l0.length : Int) > 1048576
  · simp only [if_pos g0]; exact ht
  · simp only [if_neg g0]
    by_cases g1 : (l1.length : Int) > 1048576
    · simp only [decide_eq_true g1]; exact ht
    · simp only [decide_eq_false g1]
      obtain ⟨l, hD, hd⟩ := deviceOf_is l0 h0 (by omega)
      obtain ⟨p1, p2, p3, p4⟩ := crash_parts hd
      have hF : spec_FlagsOf.f l1 = some (flB l1) := by
        unfold spec_FlagsOf.f
        rw [if_pos (by rw [h1, Bool.true_and, decide_eq_true_eq]; omega)]
      have hb : (flB l1).length ≤ 4096 := by
        unfold flB
        rw [flA_length]
        have := byN_range l1 (okB_ok l1 h1) 0
        omega
      obtain ⟨q1, q2⟩ := putKept_mod (flB l1) l 0 (dvH l0) p4 p1 p2
      have hall := all_l0 (dvH l0) (putKept (flB l1) 0 (dvH l0) l) l [] p3 p1 q1 q2 (fun s _ => sec_kept (flB l1) s l 0 (dvH l0) p4 p1 p2) ((putKept (flB l1) 0 (dvH l0) l).length / 32) 0 (by omega)
      refine Ev.step (fun k => by simp only [laws_FnCrash.j0]; rw [if_neg (by decide), hF]) ?_
      refine Ev.bind hD ?_
      refine ev_now ?_
      refine Ev.bind (impl_crash_is (dvH l0) l (flB l1) hd hb) ?_
      refine Ev.bind (spec_crash_is (dvH l0) l (flB l1) hd hb) ?_
      refine Ev.bind (impl_crash_is (dvH l0) l [] hd (by simp)) ?_
      refine ev_pos rfl (ev_pos rfl (ev_pos rfl (ev_pos rfl ?_)))
      refine Ev.step (fun k => ?_) hall
      simp only [laws_FnCrash.j1]
      rw [if_neg (by rw [putKept_nil]; simp)]
      rfl
end Go.Proofs.Ytmkemagjedihmaa.Pure
