/- Plain facts: the program's crash of a device and the reference's put the same sectors into the same bytes. -/
import Derived.Test.YthojdfndgfpkpaaYKDevEq
import Derived.Test.YthojdfndgfpkpaaYKMark
import Derived.Test.YthojdfndgfpkpaaYKBoolEq
namespace Go.Proofs.Ythojdfndgfpkpaa.YK
open Go.RowKit Go.Proofs.Ythojdfndgfpkpaa.Num Go.Proofs.Ythojdfndgfpkpaa.Loops Go.Proofs.Ythojdfndgfpkpaa.XK Go.Proofs.YthojdfndgfpkpaaW.PrintWords Go.Proofs.YthojdfndgfpkpaaW.PrintLast Go.Proofs.Ythojdfndgfpkpaa.OpenCopy

theorem putL_len (l s : List Int) (i : Nat) (hs : s.length = 32) : (putL l i s).length = max l.length (32 * (i + 1)) := by
  unfold putL
  simp only [List.length_append, List.length_take, List.length_drop, List.length_replicate, hs]
  omega
def putKept (b : List Bool) : Nat → List Int → List S116 → List Int
  | _, x, [] => x
  | i, x, s :: r => putKept b (i + 1) (if (i : Int) < (b.length : Int) then (if rdOf false b (i : Int) = true then putL x s.f0.toNat s.f1 else x) else x) r
theorem kept_fits (b : List Bool) (i : Nat) (x : List Int) (s : S116) (hs : secB s = true) (h1 : x.length % 32 = 0) (h2 : x.length ≤ 4096) :
    (if (i : Int) < (b.length : Int) then (if rdOf false b (i : Int) = true then putL x s.f0.toNat s.f1 else x) else x).length % 32 = 0 ∧ (if (i : Int) < (b.length : Int) then (if rdOf false b (i : Int) = true then putL x s.f0.toNat s.f1 else x) else x).length ≤ 4096 := by
  simp only [secB, Bool.and_eq_true, decide_eq_true_eq] at hs
  have hl := putL_len x s.f1 s.f0.toNat hs.2.2
  by_cases c1 : (i : Int) < (b.length : Int)
  · rw [if_pos c1]
    by_cases c2 : rdOf false b (i : Int) = true
    · rw [if_pos c2]; exact ⟨by omega, by omega⟩
    · rw [if_neg c2]; exact ⟨h1, h2⟩
  · rw [if_neg c1]; exact ⟨h1, h2⟩
theorem putKept_length (b : List Bool) (l : List S116) : ∀ (i : Nat) (x : List Int), (∀ s ∈ l, secB s = true) → x.length % 32 = 0 → x.length ≤ 4096 → (putKept b i x l).length ≤ 4096 := by
  induction l with
  | nil => intro i x _ _ h; exact h
  | cons s r ih =>
    intro i x h h1 h2
    obtain ⟨a, b'⟩ := kept_fits b i x s (h s (List.mem_cons_self ..)) h1 h2
    exact ih (i + 1) _ (fun t ht => h t (List.mem_cons_of_mem _ ht)) a b'
theorem spec_crash (b : List Bool) (h : List Int) (l : List S116) (hn : l.length ≤ 4096) (hok : ∀ s ∈ l, secB s = true) (d : Nat) : ∀ (i : Nat) (x : List Int), i + d = l.length → x.length % 32 = 0 → x.length ≤ 4096 → Ev (fun k => spec_l01Crash.l0 k b x (i : Int) h l) (putKept b i x (l.drop i), []) := by
  induction d with
  | zero =>
    intro i x hd h1 h2
    rw [List.drop_of_length_le (by omega)]
    refine Ev.step (f := fun _ => some (x, [])) (fun k => ?_) (Ev.now _)
    simp only [spec_l01Crash.l0]; rw [if_neg (by omega)]
  | succ d ih =>
    intro i x hd h1 h2
    have hs := hok _ (getD_mem l z116 i (by omega))
    obtain ⟨f1, f2⟩ := kept_fits b i x _ hs h1 h2
    simp only [secB, Bool.and_eq_true, decide_eq_true_eq] at hs
    rw [drop_cons l z116 i (by omega)]
    refine Ev.step (fun k => ?_) (ih (i + 1) _ (by omega) f1 f2)
    simp only [spec_l01Crash.l0]
    rw [if_pos (show (i : Int) < (l.length : Int) by omega), rdB, inc i (by omega)]
    by_cases c1 : (i : Int) < (b.length : Int)
    · rw [if_pos c1, if_pos c1, if_pos (by omega)]
      by_cases c2 : rdOf false b (i : Int) = true
      · rw [if_pos c2, if_pos c2]
        unfold spec_l01Put.f
        rw [if_pos ⟨hs.1, hs.2.1, hs.2.2, by omega, h1⟩, Option.bind_some]
      · rw [if_neg c2, if_neg c2]
    · rw [if_neg c1, if_neg c1]
theorem impl_crash (b : List Bool) (l : List S116) (hn : l.length ≤ 4096) (hok : ∀ s ∈ l, secB s = true) (d : Nat) : ∀ (i : Nat) (x : List Int), i + d = l.length → x.length % 32 = 0 → x.length ≤ 4096 → Ev (fun k => impl_Device_crash.l0 k b x l (l.length : Int) (i : Int)) (putKept b i x (l.drop i), []) := by
  induction d with
  | zero =>
    intro i x hd h1 h2
    rw [List.drop_of_length_le (by omega)]
    refine Ev.step (f := fun _ => some (x, [])) (fun k => ?_) (Ev.now _)
    simp only [impl_Device_crash.l0]; rw [if_neg (by omega)]
  | succ d ih =>
    intro i x hd h1 h2
    have hs := hok _ (getD_mem l z116 i (by omega))
    obtain ⟨f1, f2⟩ := kept_fits b i x _ hs h1 h2
    simp only [secB, Bool.and_eq_true, decide_eq_true_eq] at hs
    rw [drop_cons l z116 i (by omega)]
    refine Ev.step (fun k => ?_) (ih (i + 1) _ (by omega) f1 f2)
    simp only [impl_Device_crash.l0]
    rw [if_pos (show (i : Int) < (l.length : Int) by omega), if_pos (show 0 ≤ (i : Int) by omega), if_pos (show (i : Int) < (l.length : Int) by omega), rdB, inc i (by omega)]
    by_cases c1 : (i : Int) < (b.length : Int)
    · rw [if_pos c1, if_pos c1]
      by_cases c2 : rdOf false b (i : Int) = true
      · rw [if_pos c2, if_pos c2]
        unfold impl_put.f
        rw [if_pos ⟨hs.1, hs.2.1, hs.2.2, by omega⟩, Option.bind_some]
      · rw [if_neg c2, if_neg c2]
    · rw [if_neg c1, if_neg c1]
theorem crash_parts {h : List Int} {l : List S116} (hd : devB h l = true) : h.length % 32 = 0 ∧ h.length ≤ 4096 ∧ l.length ≤ 4096 ∧ ∀ s ∈ l, secB s = true := by
  simp only [devB, Bool.and_eq_true, decide_eq_true_eq, List.all_eq_true] at hd
  exact ⟨by omega, by omega, by omega, hd.2.2.2⟩
theorem crash_both (h : List Int) (l : List S116) (b : List Bool) (hn : l.length ≤ 1048576) : ∃ (R : List Int) (c : Int), Ev (fun k => spec_DeviceCrash.f k h l b) (R, [], c) ∧ Ev (fun k => impl_DeviceCrash.f k h l b) (R, [], c) ∧ R.length ≤ 4096 := by
  unfold spec_DeviceCrash.f impl_DeviceCrash.f impl_isList_bool.f
  by_cases c0 : (b.length : Int) ≤ 4096
  · simp only [decide_eq_true c0, Option.bind_some, if_true, impl_device]
    by_cases c : devB h l = true
    · obtain ⟨a, b', b2, d⟩ := crash_parts c
      refine ⟨putKept b 0 h l, 0, ev_neg (by omega) (Ev.bind (spec_device h l hn) ?_), ev_pos c ?_, putKept_length b l 0 h d a b'⟩
      · rw [c]
        refine ev_pos rfl (Ev.bind (a := (putKept b 0 h l, [])) ?_ (Ev.now _))
        unfold spec_l01Crash.f
        simp only [Option.bind_some]
        refine ev_pos (by simp; omega) ?_
        exact spec_crash b h l b2 d l.length 0 h (by omega) a b'
      · refine Ev.bind (a := (putKept b 0 h l, [])) ?_ (Ev.now _)
        unfold impl_Device_crash.f slices_Clone_byte_byte.f
        rw [if_pos (by omega)]
        exact impl_crash b l b2 d l.length 0 h (by omega) a b'
    · refine ⟨[], 1, ev_neg (by omega) (Ev.bind (spec_device h l hn) ?_), ev_neg c (Ev.now _), by simp⟩
      exact ev_neg c (Ev.now _)
  · refine ⟨[], 2, ev_pos (by omega) (Ev.now _), ?_, by simp⟩
    simp only [decide_eq_false c0, Option.bind_some, Bool.false_eq_true, if_false]
    exact Ev.now _
theorem markDevice_flat (R : List Int) (hn : R.length ≤ 4096) : Ev (fun k => laws_markDevice.f k R [] 1) (1 + (R.length : Int), markL 1 R.length, []) := by
  unfold laws_markDevice.f
  refine Ev.bind (markByteS R 1 (by omega) (by omega) (by omega)) ?_
  refine Ev.bind (a := (1 + (R.length : Int), [])) ?_ (Ev.now _)
  refine Ev.step (f := fun _ => some (1 + (R.length : Int), [])) (fun k => ?_) (Ev.now _)
  show laws_markSectorS.l0 (k + 1) [] _ 0 = _
  simp only [laws_markSectorS.l0]
  rw [if_neg (by simp)]
theorem heldDevice_flat (n : Nat) (hn : n ≤ 4096) : Ev (fun k => laws_heldDevice.f k (markL 1 n) [] 1) (1 + (n : Int)) := by
  unfold laws_heldDevice.f
  refine Ev.bind (heldByteS 1 n (by omega) (by omega) (by omega)) ?_
  refine ev_neg (by omega) ?_
  refine Ev.bind (a := 1 + (n : Int)) ?_ (ev_neg (by omega) (Ev.now _))
  refine Ev.step (f := fun _ => some (1 + (n : Int))) (fun k => ?_) (Ev.now _)
  show laws_heldSectorS.l0 (k + 1) [] _ 0 = _
  simp only [laws_heldSectorS.l0]
  rw [if_neg (by simp)]
end Go.Proofs.Ythojdfndgfpkpaa.YK
