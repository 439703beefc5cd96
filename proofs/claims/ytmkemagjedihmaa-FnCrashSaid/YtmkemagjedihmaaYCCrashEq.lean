/- Plain facts: what a crash leaves, and what the reference's draws of devices and flags are. -/
import Derived.Test.YtmkemagjedihmaaYCBase
import Derived.Test.YtmkemagjedihmaaYLoops
import Derived.Test.YtmkemagjedihmaaYFldB
namespace Go.Proofs.Ytmkemagjedihmaa.YC
open Go.RowKit Go.Proofs.Ytmkemagjedihmaa.Num Go.Proofs.Ytmkemagjedihmaa.Loops Go.Proofs.Ytmkemagjedihmaa.XC Go.Proofs.YtmkemagjedihmaaW.PrintWords Go.Proofs.YtmkemagjedihmaaW.PrintLast Go.Proofs.Ytmkemagjedihmaa.OpenCopy Go.Proofs.Ytmkemagjedihmaa.StSrc Go.Proofs.Ytmkemagjedihmaa.Limb Go.Proofs.Ytmkemagjedihmaa.FldA Go.Proofs.Ytmkemagjedihmaa.FldB
theorem rdB (l : List S32) (i : Nat) : rd_T32 l (i : Int) = l.getD i z32 := by simp [rd_T32]
theorem rdb (l : List Bool) (i : Nat) : rdOf false l (i : Int) = l.getD i false := by simp [rdOf]
/-- whether a device is right -/
def secB (s : S32) : Bool := decide (0 ≤ s.f0) && (decide (s.f0 ≤ 127) && decide (s.f1.length = 32))
def devB (h : List Int) (l : List S32) : Bool := decide ((h.length : Int) % 32 = 0) && (decide ((h.length : Int) ≤ 4096) && (decide ((l.length : Int) ≤ 4096) && l.all secB))
theorem ok_is (s : S32) : impl_DeviceOK.ok s = secB s := by
  unfold impl_DeviceOK.ok impl_DeviceOK_1.f impl_within.f secB
  by_cases h1 : 0 ≤ s.f0 <;> by_cases h2 : s.f0 ≤ 127 <;> by_cases h3 : s.f1.length = 32 <;> simp [h1, h2, h3] <;> omega
theorem impl_device (h : List Int) (l : List S32) : impl_DeviceOK.f h l = some (devB h l) := by
  unfold impl_DeviceOK.f devB
  rw [show impl_DeviceOK.ok = secB from funext ok_is]

theorem spec_secs (h : List Int) (l : List S32) (hn : l.length ≤ 1048576) (d : Nat) : ∀ i : Nat, i + d = l.length → Ev (fun k => spec_DeviceOK.l0 k (i : Int) h l) ((l.drop i).all secB) := by
  induction d with
  | zero =>
    intro i hd
    refine Ev.step (f := fun _ => some true) (fun k => ?_) ?_
    · simp only [spec_DeviceOK.l0]; rw [if_neg (by omega)]
    · rw [List.drop_of_length_le (by omega)]; exact Ev.now _
  | succ d ih =>
    intro i hd
    rw [drop_cons l z32 i (by omega), List.all_cons]
    have hin : spec_l01In.f (l.getD i z32).f0 0 127 = some (decide (0 ≤ (l.getD i z32).f0) && decide ((l.getD i z32).f0 ≤ 127)) := by
      unfold spec_l01In.f
      generalize l.getD i z32 = s
      by_cases c : 0 ≤ s.f0 <;> simp [c]
    have st : ∀ g r, (∀ k, spec_DeviceOK.l0 (k + 1) (i : Int) h l = g k) → Ev g r → Ev (fun k => spec_DeviceOK.l0 k (i : Int) h l) r := fun g r h1 h2 => Ev.step h1 h2
    have e0 : ∀ k, spec_DeviceOK.l0 (k + 1) (i : Int) h l = if (decide (0 ≤ (l.getD i z32).f0) && decide ((l.getD i z32).f0 ≤ 127)) = true then (if ((l.getD i z32).f1.length : Int) = 32 then spec_DeviceOK.l0 k ((i + 1 : Nat) : Int) h l else some false) else some false := by
      intro k
      simp only [spec_DeviceOK.l0]
      rw [if_pos (by omega), if_pos (by omega), rdB, hin, inc i (by omega)]
      simp only [Option.bind_some]
    refine st _ _ e0 ?_
    unfold secB
    generalize l.getD i z32 = s
    by_cases h1 : 0 ≤ s.f0
    · by_cases h2 : s.f0 ≤ 127
      · by_cases h3 : s.f1.length = 32
        · simp only [h1, h2, h3, decide_true, Bool.true_and, if_true, show ((32 : Nat) : Int) = 32 from rfl]
          exact ih (i + 1) (by omega)
        · simp only [h1, h2, h3, decide_true, decide_false, Bool.true_and, if_true, Bool.false_and, if_neg (show ¬ (s.f1.length : Int) = 32 by omega)]
          exact Ev.now _
      · simp only [h1, h2, decide_true, decide_false, Bool.true_and, Bool.false_eq_true, if_false, Bool.false_and]
        exact Ev.now _
    · simp only [h1, decide_false, Bool.false_and, Bool.false_eq_true, if_false]
      exact Ev.now _

theorem spec_device (h : List Int) (l : List S32) (hn : l.length ≤ 1048576) : Ev (fun k => spec_DeviceOK.f k h l) (devB h l) := by
  have hj : ∀ b : Bool, Ev (fun k => spec_DeviceOK.j0 k b h l) (!b && l.all secB) := by
    intro b
    cases b with
    | true => exact Ev.step (f := fun _ => some false) (fun k => by simp only [spec_DeviceOK.j0, if_true]) (Ev.now _)
    | false => exact Ev.step (fun k => by simp only [spec_DeviceOK.j0]; rw [if_neg (by decide)]; rfl) (spec_secs h l hn l.length 0 (by omega))
  have ht : Ev (fun k => spec_DeviceOK.j0 k true h l) false := hj true
  unfold spec_DeviceOK.f devB
  by_cases c1 : (h.length : Int) % 32 = 0
  · simp only [if_pos c1, decide_eq_true c1, Bool.true_and]
    by_cases c2 : (h.length : Int) ≤ 4096
    · simp only [if_neg (show ¬ (h.length : Int) > 4096 by omega), decide_eq_true c2, Bool.true_and]
      refine Ev.eq (hj _) ?_
      by_cases c3 : (l.length : Int) ≤ 4096
      · rw [decide_eq_true c3, decide_eq_false (show ¬ (l.length : Int) > 4096 by omega)]; rfl
      · rw [decide_eq_false c3, decide_eq_true (show (l.length : Int) > 4096 by omega)]; rfl
    · simp only [if_pos (show (h.length : Int) > 4096 by omega), decide_eq_false c2, Bool.false_and]
      exact ht
  · simp only [if_neg c1, decide_eq_false c1, Bool.false_and]
    exact ht
theorem putL_len (l s : List Int) (i : Nat) (hs : s.length = 32) : (putL l i s).length = max l.length (32 * (i + 1)) := by
  unfold putL
  simp only [List.length_append, List.length_take, List.length_drop, List.length_replicate, hs]
  omega
def putKept (b : List Bool) : Nat → List Int → List S32 → List Int
  | _, x, [] => x
  | i, x, s :: r => putKept b (i + 1) (if (i : Int) < (b.length : Int) then (if rdOf false b (i : Int) = true then putL x s.f0.toNat s.f1 else x) else x) r
theorem kept_fits (b : List Bool) (i : Nat) (x : List Int) (s : S32) (hs : secB s = true) (h1 : x.length % 32 = 0) (h2 : x.length ≤ 4096) :
    (if (i : Int) < (b.length : Int) then (if rdOf false b (i : Int) = true then putL x s.f0.toNat s.f1 else x) else x).length % 32 = 0 ∧ (if (i : Int) < (b.length : Int) then (if rdOf false b (i : Int) = true then putL x s.f0.toNat s.f1 else x) else x).length ≤ 4096 := by
  simp only [secB, Bool.and_eq_true, decide_eq_true_eq] at hs
  have hl := putL_len x s.f1 s.f0.toNat hs.2.2
  by_cases c1 : (i : Int) < (b.length : Int)
  · rw [if_pos c1]
    by_cases c2 : rdOf false b (i : Int) = true
    · rw [if_pos c2]; exact ⟨by omega, by omega⟩
    · rw [if_neg c2]; exact ⟨h1, h2⟩
  · rw [if_neg c1]; exact ⟨h1, h2⟩
theorem putKept_length (b : List Bool) (l : List S32) : ∀ (i : Nat) (x : List Int), (∀ s ∈ l, secB s = true) → x.length % 32 = 0 → x.length ≤ 4096 → (putKept b i x l).length ≤ 4096 := by
  induction l with
  | nil => intro i x _ _ h; exact h
  | cons s r ih =>
    intro i x h h1 h2
    obtain ⟨a, b'⟩ := kept_fits b i x s (h s (List.mem_cons_self ..)) h1 h2
    exact ih (i + 1) _ (fun t ht => h t (List.mem_cons_of_mem _ ht)) a b'
theorem spec_crash (b : List Bool) (h : List Int) (l : List S32) (hn : l.length ≤ 4096) (hok : ∀ s ∈ l, secB s = true) (d : Nat) : ∀ (i : Nat) (x : List Int), i + d = l.length → x.length % 32 = 0 → x.length ≤ 4096 → Ev (fun k => spec_l01Crash.l0 k b x (i : Int) h l) (putKept b i x (l.drop i), []) := by
  induction d with
  | zero =>
    intro i x hd h1 h2
    rw [List.drop_of_length_le (by omega)]
    refine Ev.step (f := fun _ => some (x, [])) (fun k => ?_) (Ev.now _)
    simp only [spec_l01Crash.l0]; rw [if_neg (by omega)]
  | succ d ih =>
    intro i x hd h1 h2
    have hs := hok _ (getD_mem l z32 i (by omega))
    obtain ⟨f1, f2⟩ := kept_fits b i x _ hs h1 h2
    simp only [secB, Bool.and_eq_true, decide_eq_true_eq] at hs
    rw [drop_cons l z32 i (by omega)]
    refine Ev.step (fun k => ?_) (ih (i + 1) _ (by omega) f1 f2)
    simp only [spec_l01Crash.l0]
    rw [if_pos (show (i : Int) < (l.length : Int) by omega), rdB, inc i (by omega)]
    by_cases c1 : (i : Int) < (b.length : Int)
    · rw [if_pos c1, if_pos c1, if_pos (by omega)]
      by_cases c2 : rdOf false b (i : Int) = true
      · rw [if_pos c2, if_pos c2]
        unfold spec_l01Put.f
        rw [if_pos ⟨hs.1, hs.2.1, hs.2.2, by omega, h1⟩, Option.bind_some]
      · rw [if_neg c2, if_neg c2]
    · rw [if_neg c1, if_neg c1]
theorem impl_crash (b : List Bool) (l : List S32) (hn : l.length ≤ 4096) (hok : ∀ s ∈ l, secB s = true) (d : Nat) : ∀ (i : Nat) (x : List Int), i + d = l.length → x.length % 32 = 0 → x.length ≤ 4096 → Ev (fun k => impl_Device_crash.l0 k b x l (l.length : Int) (i : Int)) (putKept b i x (l.drop i), []) := by
  induction d with
  | zero =>
    intro i x hd h1 h2
    rw [List.drop_of_length_le (by omega)]
    refine Ev.step (f := fun _ => some (x, [])) (fun k => ?_) (Ev.now _)
    simp only [impl_Device_crash.l0]; rw [if_neg (by omega)]
  | succ d ih =>
    intro i x hd h1 h2
    have hs := hok _ (getD_mem l z32 i (by omega))
    obtain ⟨f1, f2⟩ := kept_fits b i x _ hs h1 h2
    simp only [secB, Bool.and_eq_true, decide_eq_true_eq] at hs
    rw [drop_cons l z32 i (by omega)]
    refine Ev.step (fun k => ?_) (ih (i + 1) _ (by omega) f1 f2)
    simp only [impl_Device_crash.l0]
    rw [if_pos (show (i : Int) < (l.length : Int) by omega), if_pos (show 0 ≤ (i : Int) by omega), if_pos (show (i : Int) < (l.length : Int) by omega), rdB, inc i (by omega)]
    by_cases c1 : (i : Int) < (b.length : Int)
    · rw [if_pos c1, if_pos c1]
      by_cases c2 : rdOf false b (i : Int) = true
      · rw [if_pos c2, if_pos c2]
        unfold impl_put.f
        rw [if_pos ⟨hs.1, hs.2.1, hs.2.2, by omega⟩, Option.bind_some]
      · rw [if_neg c2, if_neg c2]
    · rw [if_neg c1, if_neg c1]
theorem crash_parts {h : List Int} {l : List S32} (hd : devB h l = true) : h.length % 32 = 0 ∧ h.length ≤ 4096 ∧ l.length ≤ 4096 ∧ ∀ s ∈ l, secB s = true := by
  simp only [devB, Bool.and_eq_true, decide_eq_true_eq, List.all_eq_true] at hd
  exact ⟨by omega, by omega, by omega, hd.2.2.2⟩
theorem spec_crash_is (h : List Int) (l : List S32) (b : List Bool) (hd : devB h l = true) (hb : b.length ≤ 4096) : Ev (fun k => spec_DeviceCrash.f k h l b) (putKept b 0 h l, [], 0) := by
  obtain ⟨a, b', b2, d⟩ := crash_parts hd
  unfold spec_DeviceCrash.f
  refine ev_neg (by omega) (Ev.bind (spec_device h l (by omega)) ?_)
  rw [hd]
  refine ev_pos rfl (Ev.bind (a := (putKept b 0 h l, [])) ?_ (Ev.now _))
  unfold spec_l01Crash.f
  simp only [Option.bind_some]
  refine ev_pos (by simp; omega) ?_
  exact spec_crash b h l b2 d l.length 0 h (by omega) a b'
theorem impl_crash_is (h : List Int) (l : List S32) (b : List Bool) (hd : devB h l = true) (hb : b.length ≤ 4096) : Ev (fun k => impl_DeviceCrash.f k h l b) (putKept b 0 h l, [], 0) := by
  obtain ⟨a, b', b2, d⟩ := crash_parts hd
  have c0 : (b.length : Int) ≤ 4096 := by omega
  unfold impl_DeviceCrash.f impl_isList_bool.f
  simp only [decide_eq_true c0, Option.bind_some, if_true, impl_device]
  refine ev_pos hd ?_
  refine Ev.bind (a := (putKept b 0 h l, [])) ?_ (Ev.now _)
  unfold impl_Device_crash.f slices_Clone_byte_byte.f
  rw [if_pos (by omega)]
  exact impl_crash b l b2 d l.length 0 h (by omega) a b'
theorem putKept_nil (l : List S32) : ∀ (i : Nat) (x : List Int), putKept [] i x l = x := by
  induction l with
  | nil => intro i x; rfl
  | cons s r ih =>
    intro i x
    show putKept [] (i + 1) (if (i : Int) < (([] : List Bool).length : Int) then _ else x) r = x
    rw [if_neg (by show ¬ (i : Int) < 0; omega)]
    exact ih (i + 1) x
/-- the sector number s of bytes, of noughts behind their end -/
def secAt (x : List Int) (s : Nat) : List Int := if 32 * (s + 1) ≤ x.length then (x.take (32 * (s + 1))).drop (32 * s) else List.replicate 32 0
theorem pad_sec (x : List Int) (n s : Nat) (hx : x.length % 32 = 0) (hn : x.length ≤ 32 * n) (hs : s < n) : ((x ++ List.replicate (32 * n - x.length) 0).take (32 * (s + 1))).drop (32 * s) = secAt x s := by
  unfold secAt
  split
  · rename_i h
    rw [List.take_append_of_le_length h]
  · rename_i h
    have h2 : x.length ≤ 32 * s := by omega
    rw [List.take_append, List.drop_append, List.drop_eq_nil_of_le (by simp; omega), List.nil_append, List.take_replicate, List.drop_replicate]
    congr 1
    simp
    omega
theorem sec_putL (x d : List Int) (i s : Nat) (hx : x.length % 32 = 0) (hd : d.length = 32) : secAt (putL x i d) s = if s = i then d else secAt x s := by
  have hl := putL_len x d i hd
  obtain ⟨n, hn⟩ : ∃ n, x.length = 32 * n := ⟨x.length / 32, by omega⟩
  have hpl : (putL x i d).length = 32 * max n (i + 1) := by rw [hl, hn]; omega
  have hq : ∀ m, i + 1 ≤ m → n ≤ m → (x ++ List.replicate (32 * (i + 1) - x.length) 0).length = 32 * max n (i + 1) := by
    intro m _ _; simp; omega
  have hy := hq (max n (i + 1)) (by omega) (by omega)
  by_cases c : 32 * (s + 1) ≤ (putL x i d).length
  · have hs : s < max n (i + 1) := by omega
    unfold secAt
    rw [if_pos c]
    unfold putL
    simp only
    have hpad : x ++ List.replicate (32 * (i + 1) - x.length) 0 = x ++ List.replicate (32 * max n (i + 1) - x.length) 0 := by
      congr 2; omega
    have hps := pad_sec x (max n (i + 1)) s hx (by omega) hs
    rw [← hpad] at hps
    generalize hz : x ++ List.replicate (32 * (i + 1) - x.length) 0 = y at *
    have e0 : secAt x s = (y.take (32 * (s + 1))).drop (32 * s) := hps.symm
    unfold secAt at e0
    rw [e0]
    rw [hd]
    by_cases e : s = i
    · subst e
      rw [if_pos rfl]
      have t1 : (y.take (32 * s)).length = 32 * s := by rw [List.length_take]; omega
      rw [← List.append_assoc, List.take_append_of_le_length (by rw [List.length_append, t1, hd]; omega), List.take_of_length_le (by rw [List.length_append, t1, hd]; omega)]
      rw [List.drop_append_of_le_length (by omega), List.drop_eq_nil_of_le (by omega), List.nil_append]
    · rw [if_neg e]
      apply List.ext_getElem?
      intro j
      rw [List.getElem?_drop, List.getElem?_drop, List.getElem?_take, List.getElem?_take]
      have t1 : (y.take (32 * i)).length = 32 * i := by rw [List.length_take]; omega
      by_cases cj : 32 * s + j < 32 * (s + 1)
      · rw [if_pos cj, if_pos cj]
        by_cases ci : s < i
        · rw [List.getElem?_append_left (by rw [t1]; omega), List.getElem?_take, if_pos (by omega)]
        · rw [List.getElem?_append_right (by rw [t1]; omega), t1, List.getElem?_append_right (by omega), List.getElem?_drop, hd]
          congr 1; omega
      · rw [if_neg cj, if_neg cj]
  · have hs : ¬ s < max n (i + 1) := by omega
    unfold secAt
    rw [if_neg c, if_neg (by omega), if_neg (show ¬ 32 * (s + 1) ≤ x.length by omega)]
theorem sec_kept (b : List Bool) (s : Nat) (l : List S32) : ∀ (i : Nat) (x : List Int), (∀ t ∈ l, secB t = true) → x.length % 32 = 0 → x.length ≤ 4096 →
    secAt (putKept b i x l) s = secAt x s ∨ ∃ j, j < l.length ∧ (l.getD j z32).f0 = (s : Int) ∧ (l.getD j z32).f1 = secAt (putKept b i x l) s := by
  induction l with
  | nil => intro i x _ _ _; exact Or.inl rfl
  | cons t r ih =>
    intro i x h h1 h2
    have ht := h t (List.mem_cons_self ..)
    obtain ⟨q1, q2⟩ := kept_fits b i x t ht h1 h2
    simp only [secB, Bool.and_eq_true, decide_eq_true_eq] at ht
    have hr := ih (i + 1) _ (fun u hu => h u (List.mem_cons_of_mem _ hu)) q1 q2
    show secAt (putKept b (i + 1) _ r) s = _ ∨ ∃ j, j < (t :: r).length ∧ ((t :: r).getD j z32).f0 = (s : Int) ∧ ((t :: r).getD j z32).f1 = secAt (putKept b (i + 1) _ r) s
    rcases hr with hr | ⟨j, j1, j2, j3⟩
    · rw [hr]
      by_cases c1 : (i : Int) < (b.length : Int)
      · rw [if_pos c1]
        by_cases c2 : rdOf false b (i : Int) = true
        · rw [if_pos c2, sec_putL x t.f1 t.f0.toNat s h1 ht.2.2]
          by_cases e : s = t.f0.toNat
          · refine Or.inr ⟨0, by simp, ?_, ?_⟩
            · show t.f0 = (s : Int); omega
            · rw [if_pos e]; rfl
          · rw [if_neg e]; exact Or.inl rfl
        · rw [if_neg c2]; exact Or.inl rfl
      · rw [if_neg c1]; exact Or.inl rfl
    · exact Or.inr ⟨j + 1, by simp; omega, j2, j3⟩
theorem putKept_mod (b : List Bool) (l : List S32) : ∀ (i : Nat) (x : List Int), (∀ s ∈ l, secB s = true) → x.length % 32 = 0 → x.length ≤ 4096 → (putKept b i x l).length % 32 = 0 ∧ (putKept b i x l).length ≤ 4096 := by
  induction l with
  | nil => intro i x _ h1 h2; exact ⟨h1, h2⟩
  | cons s r ih =>
    intro i x h h1 h2
    obtain ⟨q1, q2⟩ := kept_fits b i x s (h s (List.mem_cons_self ..)) h1 h2
    exact ih (i + 1) _ (fun t ht => h t (List.mem_cons_of_mem _ ht)) q1 q2
/- what the reference's draw of a device is -/
theorem spec_read (h : List Int) (l : List S32) (hn : l.length ≤ 4096) (hok : ∀ s ∈ l, secB s = true) (d : Nat) : ∀ (i : Nat) (x : List Int), i + d = l.length → x.length % 32 = 0 → x.length ≤ 4096 →
    ∃ R, Ev (fun k => spec_l01Read.l0 k x (i : Int) h l) R ∧ R.length % 32 = 0 ∧ R.length ≤ 4096 := by
  induction d with
  | zero =>
    intro i x hd h1 h2
    refine ⟨x, Ev.step (f := fun _ => some x) (fun k => ?_) (Ev.now _), h1, h2⟩
    simp only [spec_l01Read.l0]; rw [if_neg (by omega)]
  | succ d ih =>
    intro i x hd h1 h2
    have hs := hok _ (getD_mem l z32 i (by omega))
    simp only [secB, Bool.and_eq_true, decide_eq_true_eq] at hs
    have hl := putL_len x (l.getD i z32).f1 (l.getD i z32).f0.toNat hs.2.2
    obtain ⟨R, hR, r1, r2⟩ := ih (i + 1) _ (by omega) (show (putL x (l.getD i z32).f0.toNat (l.getD i z32).f1).length % 32 = 0 by omega) (by omega)
    refine ⟨R, Ev.step (fun k => ?_) hR, r1, r2⟩
    simp only [spec_l01Read.l0]
    rw [if_pos (by omega), if_pos (by omega), rdB]
    unfold spec_l01Put.f
    rw [if_pos ⟨hs.1, hs.2.1, hs.2.2, by omega, h1⟩, Option.bind_some, inc i (by omega)]
theorem spec_read_is (h : List Int) (l : List S32) (hd : devB h l = true) : ∃ R, Ev (fun k => spec_l01Read.f k h l) R ∧ R.length % 32 = 0 ∧ R.length ≤ 4096 := by
  obtain ⟨a, b, c, d⟩ := crash_parts hd
  obtain ⟨R, hR, r⟩ := spec_read h l c d l.length 0 h (by omega) a b
  refine ⟨R, ?_, r⟩
  unfold spec_l01Read.f
  simp only [Option.bind_some]
  refine ev_pos (by simp; omega) ?_
  exact hR
theorem write_l1 (at_ : Nat) (data x : List Int) (h : List Int) (hat : at_ ≤ 119) (hda : data.length ≤ 30) (hx : x.length % 32 = 0) (hx2 : x.length ≤ 1048576) (hE : at_ + data.length ≤ x.length) (d : Nat) :
    ∀ (s : Nat) (l : List S32), at_ + data.length ≤ 32 * s + 32 * d → s ≤ 5 → l.length + d ≤ 1000 → (∀ t ∈ l, secB t = true) →
      ∃ l', Ev (fun k => spec_l01Write.l1 k (at_ : Int) data x (s : Int) h l) (h, l') ∧ l'.length ≤ l.length + d ∧ ∀ t ∈ l', secB t = true := by
  induction d with
  | zero =>
    intro s l hd hs hl hok
    refine ⟨l, Ev.step (f := fun _ => some (h, l)) (fun k => ?_) (Ev.now _), by omega, hok⟩
    simp only [spec_l01Write.l1]
    rw [w64 (n := (s : Int) * 32) (by omega) (by omega), w64 (n := (at_ : Int) + (data.length : Int)) (by omega) (by omega), if_neg (by omega)]
  | succ d ih =>
    intro s l hd hs hl hok
    by_cases c : 32 * s < at_ + data.length
    · have hss : s ≤ 4 := by omega
      have hsx : 32 * (s + 1) ≤ x.length := by omega
      obtain ⟨l', e1, e2, e3⟩ := ih (s + 1) (l ++ [⟨(s : Int), (x.take (32 * (s + 1))).drop (32 * s)⟩]) (by omega) (by omega) (by simp; omega) (by
        intro t ht
        rcases List.mem_append.mp ht with ht | ht
        · exact hok t ht
        · rw [List.mem_singleton] at ht; subst ht
          have : ((x.take (32 * (s + 1))).drop (32 * s)).length = 32 := by simp; omega
          simp only [secB, Bool.and_eq_true, decide_eq_true_eq]
          exact ⟨by omega, by omega, this⟩)
      refine ⟨l', Ev.step (fun k => ?_) e1, by simp at e2; omega, e3⟩
      simp only [spec_l01Write.l1]
      rw [w64 (n := (s : Int) * 32) (by omega) (by omega), w64 (n := (at_ : Int) + (data.length : Int)) (by omega) (by omega), if_pos (by omega)]
      rw [Option.bind_some, inc s (by omega), w64 (n := ((s + 1 : Nat) : Int) * 32) (by omega) (by omega), if_pos (show (0 : Int) ≤ (s : Int) * 32 by omega), if_pos (show (s : Int) * 32 ≤ ((s + 1 : Nat) : Int) * 32 by omega), if_pos (show ((s + 1 : Nat) : Int) * 32 ≤ (x.length : Int) by omega), Option.bind_some]
      rw [show (((s + 1 : Nat) : Int) * 32).toNat = 32 * (s + 1) by omega, show ((s : Int) * 32).toNat = 32 * s by omega]
      rw [if_pos (by rw [List.length_nil, List.length_drop, List.length_take]; omega), if_pos (by omega), List.nil_append]
    · refine ⟨l, Ev.step (f := fun _ => some (h, l)) (fun k => ?_) (Ev.now _), by omega, hok⟩
      simp only [spec_l01Write.l1]
      rw [w64 (n := (s : Int) * 32) (by omega) (by omega), w64 (n := (at_ : Int) + (data.length : Int)) (by omega) (by omega), if_neg (by omega)]
theorem write_l0 (at_ : Nat) (data : List Int) (h : List Int) (l : List S32) (hat : at_ ≤ 119) (hda : data.length ≤ 30) (hl : l.length ≤ 900) (hok : ∀ t ∈ l, secB t = true) (T : Nat) (hT : T % 32 = 0) (hT2 : T ≤ 8192) (hE : at_ + data.length ≤ T) (d : Nat) :
    ∀ x : List Int, x.length + d = T → (∀ m, x.length ≤ m → m < T → m < at_ + data.length ∨ m % 32 ≠ 0) →
      ∃ l', Ev (fun k => spec_l01Write.l0 k (at_ : Int) data x h l) (h, l') ∧ l'.length ≤ l.length + 6 ∧ ∀ t ∈ l', secB t = true := by
  induction d with
  | zero =>
    intro x hd _
    have hx : x.length = T := by omega
    have hcp : (OpenCopy2.cpL x data (at_ : Int)).length = x.length := OpenCopy2.cpL_length _ _ _ (by omega)
    by_cases cz : data.length = 0
    · refine ⟨l, Ev.step (f := fun _ => some (h, l)) (fun k => ?_) (Ev.now _), by omega, hok⟩
      simp only [spec_l01Write.l0]
      rw [w64 (n := (at_ : Int) + (data.length : Int)) (by omega) (by omega), if_neg (by omega), if_pos (by omega), if_pos (by omega)]
      simp only [Option.bind_some, List.length_nil, List.nil_append]
      rw [if_pos (by omega), if_pos (by omega)]
    · obtain ⟨l', e1, e2, e3⟩ := write_l1 at_ data (OpenCopy2.cpL x data (at_ : Int)) h hat hda (by omega) (by omega) (by omega) 6 (at_ / 32) l (by omega) (by omega) (by omega) hok
      refine ⟨l', Ev.step (fun k => ?_) e1, by omega, e3⟩
      simp only [spec_l01Write.l0]
      rw [w64 (n := (at_ : Int) + (data.length : Int)) (by omega) (by omega), if_neg (by omega), if_pos (by omega), if_pos (by omega)]
      simp only [Option.bind_some, List.length_nil, List.nil_append]
      rw [if_pos (by omega), if_neg (by omega), show Int.tdiv (at_ : Int) 32 = ((at_ / 32 : Nat) : Int) from by rw [Int.tdiv_eq_ediv_of_nonneg (by omega)]; omega, w64 (by omega) (by omega)]
  | succ d ih =>
    intro x hd hm
    obtain ⟨l', e1, e2, e3⟩ := ih (x ++ [0]) (by simp; omega) (fun m h1 h2 => hm m (by simp at h1; omega) h2)
    refine ⟨l', Ev.step (fun k => ?_) e1, e2, e3⟩
    simp only [spec_l01Write.l0]
    rw [w64 (n := (at_ : Int) + (data.length : Int)) (by omega) (by omega)]
    rcases hm x.length (Nat.le_refl _) (by omega) with c | c
    · rw [if_pos (by omega), if_pos (by omega)]
    · by_cases c2 : (x.length : Int) < (at_ : Int) + (data.length : Int)
      · rw [if_pos c2, if_pos (by omega)]
      · rw [if_neg c2, if_neg (by omega), if_pos (by omega)]
theorem write_is (a : Int) (data : List Int) (h : List Int) (l : List S32) (ha : 0 ≤ a) (hat : a ≤ 119) (hda : data.length ≤ 30) (hl : l.length ≤ 900) (hd : devB h l = true) :
    ∃ l', Ev (fun k => spec_l01Write.f k h l a data) (h, l') ∧ l'.length ≤ l.length + 6 ∧ ∀ t ∈ l', secB t = true := by
  obtain ⟨n, rfl⟩ := Int.eq_ofNat_of_zero_le ha
  obtain ⟨R, e1, r1, r2⟩ := spec_read_is h l hd
  obtain ⟨_, _, _, hok⟩ := crash_parts hd
  by_cases c : n + data.length ≤ R.length
  · obtain ⟨l', e2, e3, e4⟩ := write_l0 n data h l (by omega) hda hl hok R.length r1 (by omega) c 0 R (by omega) (fun m h1 h2 => by omega)
    exact ⟨l', Ev.bind e1 e2, e3, e4⟩
  · obtain ⟨l', e2, e3, e4⟩ := write_l0 n data h l (by omega) hda hl hok (32 * ((n + data.length + 31) / 32)) (by omega) (by omega) (by omega) (32 * ((n + data.length + 31) / 32) - R.length) R (by omega) (fun m h1 h2 => by omega)
    exact ⟨l', Ev.bind e1 e2, e3, e4⟩
theorem dvS_is (code : List Int) (ho : Ok 256 code) (j : Nat) (hj : j ≤ 3) : ∃ l, Ev (fun k => dvS k code j) (dvH code, l) ∧ l.length ≤ 6 * j ∧ ∀ t ∈ l, secB t = true := by
  have hr := byN_range code ho 0
  have hH : (dvH code).length = 32 * (byN code 0 % 4).toNat := by simp [dvH]
  induction j with
  | zero => exact ⟨[], Ev.now _, Nat.le_refl _, fun t ht => by cases ht⟩
  | succ j ih =>
    obtain ⟨l, e1, e2, e3⟩ := ih (by omega)
    have hd : devB (dvH code) l = true := by
      simp only [devB, Bool.and_eq_true, decide_eq_true_eq, List.all_eq_true]
      exact ⟨by omega, by omega, by omega, e3⟩
    have h9 := srcAM_le code ho (dvP code j + 1) 30
    obtain ⟨l', f1, f2, f3⟩ := write_is (byN code (dvP code j) % 120) (srcA code (dvP code j + 1) (srcAM code (dvP code j + 1) 30)) (dvH code) l (by omega) (by omega) (by rw [srcA_length]; exact h9) (by omega) hd
    exact ⟨l', Ev.bind e1 f1, by omega, f3⟩
theorem deviceOf_is (code : List Int) (ho : okB code = true) (hl : code.length ≤ 1048576) : ∃ l, Ev (fun k => spec_DeviceOf.f k code) (dvH code, l) ∧ devB (dvH code) l = true := by
  have hk := okB_ok code ho
  have hr := byN_range code hk 1
  have hr0 := byN_range code hk 0
  obtain ⟨l, e1, e2, e3⟩ := dvS_is code hk (byN code 1 % 4).toNat (by omega)
  have hH : (dvH code).length = 32 * (byN code 0 % 4).toNat := by simp [dvH]
  refine ⟨l, ?_, ?_⟩
  · unfold spec_DeviceOf.f
    simp only [ho, Bool.true_and, decide_eq_true_eq]
    exact ev_pos (by omega) e1
  · simp only [devB, Bool.and_eq_true, decide_eq_true_eq, List.all_eq_true]
    exact ⟨by omega, by omega, by omega, e3⟩
end Go.Proofs.Ytmkemagjedihmaa.YC
