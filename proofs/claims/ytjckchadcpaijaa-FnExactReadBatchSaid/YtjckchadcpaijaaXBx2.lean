-- Written by a program of this session (xp.py over the kit's printer, with functions proved by hand). Lean checks it.
import Derived.Test.YtjckchadcpaijaaXBx0
import Derived.Test.YtjckchadcpaijaaXBx1
namespace Go.Proofs.Ytjckchadcpaijaa.XB
open Go.Proofs.Ytjckchadcpaijaa.Open Go.Proofs.Ytjckchadcpaijaa.OpenWin Go.Proofs.Ytjckchadcpaijaa.OpenCopy Go.Proofs.Ytjckchadcpaijaa.OpenStr
open Go.RowKit Go.Proofs.YtjckchadcpaijaaW.PrintWords Go.Proofs.YtjckchadcpaijaaW.PrintLast Go.Proofs.YtjckchadcpaijaaW.PrintMore
attribute [local go_sem] max2_int min2_int max_two min_two max_three min_three max_four min_four   -- for this text's walks alone
set_option linter.unusedVariables false
set_option linter.unusedSimpArgs false

/-! ### spec_l03Read: function 70 -/
/-- the change in front of bytes, and the bytes behind it -/
def spec_l03Read.go (l : List Int) : Option (S95 × List Int) :=
  let k := (l.getD 0 0).toNat
  let r1 := (l.drop 1).drop k
  let n := (r1.getD 0 0 * 256 + r1.getD 1 0).toNat
  let r2 := r1.drop 2
  if (l.drop 1).length < k ∨ r1.length < 2 ∨ r2.length < n - 1 then none else some (⟨strOfNums ((l.drop 1).take k), strOfNums (r2.take (n - 1)), n == 0⟩, r2.drop (n - 1))
/-- all changes of bytes, and whether they end with the last one -/
def spec_l03Read.all : Nat → List Int → List S95 → List S95 × Bool
  | 0, _, out => (out, false)
  | k + 1, l, out => if l.length = 0 then (out, true) else
    match spec_l03Read.go l with
    | none => (out, false)
    | some (s, r) => spec_l03Read.all k r (out ++ [s])
def spec_l03Read.res (K : Nat) (p : List S95 × Bool) : Option (List S95 × Bool) := if p.2 = true then (spec_l03Batch.f K p.1).bind fun b => some (p.1, b) else some (p.1, false)
def spec_l03Read.f (K : Nat) (l0 : List Int) : Option ((List (S95)) × Bool) :=
  if l0.length ≤ 65536 ∧ l0.all (fun x => decide (0 ≤ x) && decide (x < 256)) = true then spec_l03Read.res K (spec_l03Read.all (l0.length + 1) l0 []) else none
theorem spec_l03Read.mono : ∀ a0 k, LeO (spec_l03Read.f k a0) (spec_l03Read.f (k + 1) a0) := by
  intro a0 k
  unfold spec_l03Read.f spec_l03Read.res
  exact LeO.ite (LeO.ite (LeO.bind (spec_l03Batch.mono _ k) (fun _ => LeO.refl _)) (LeO.refl _)) (LeO.refl _)
theorem spec_l03Read.go_is (l : List Int) (a k : Nat) (hb : ∀ x ∈ l, 0 ≤ x ∧ x < 256) (ha : a < l.length) (hk : l.getD a 0 = (k : Int)) (n : Nat) (hn : l.length < a + 1 + k + 2 ∨ l.getD (a + 1 + k) 0 * 256 + l.getD (a + 1 + k + 1) 0 = (n : Int)) :
    spec_l03Read.go (l.drop a) = if l.length < a + 1 + k + 2 ∨ l.length < a + 1 + k + 2 + (n - 1) then none else some (⟨strOfNums ((l.take (a + 1 + k)).drop (a + 1)), strOfNums ((l.take (a + 1 + k + 2 + (n - 1))).drop (a + 1 + k + 2)), n == 0⟩, l.drop (a + 1 + k + 2 + (n - 1))) := by
  have g : ∀ i j : Nat, (l.drop i).getD j 0 = l.getD (i + j) 0 := fun i j => by simp [List.getD_eq_getElem?_getD, List.getElem?_drop]
  have e0 : (l.drop a).getD 0 0 = (k : Int) := by rw [g]; exact hk
  unfold spec_l03Read.go
  rw [e0, Int.toNat_natCast]
  simp only [List.drop_drop]
  have e1 : a + (1 + k) = a + 1 + k := by omega
  rw [show a + 1 + k = a + 1 + k from rfl]
  simp only [g, List.length_drop]
  by_cases c : l.length < a + 1 + k + 2
  · rw [if_pos (by omega), if_pos (by omega)]
  · have hn2 := hn.resolve_left c
    rw [show a + 1 + k + 0 = a + 1 + k from rfl, hn2, Int.toNat_natCast]
    by_cases c2 : l.length < a + 1 + k + 2 + (n - 1)
    · rw [if_pos (by omega), if_pos (by omega)]
    · rw [if_neg (by omega), if_neg (by omega), List.drop_take, List.drop_take]
      rw [show a + 1 + k - (a + 1) = k by omega, show a + 1 + k + 2 + (n - 1) - (a + 1 + k + 2) = n - 1 by omega]
set_option maxHeartbeats 8000000 in
set_option maxRecDepth 100000 in
theorem spec_l03Read.calls (K : Nat) (A0 : Option Addr) (c0 : Nat) (l0 : List Int) (r1 : List (S95)) (r2 : Bool) (w : World) (hr0 : Kd.C (Kd.int .u8) w A0 l0.length l0) (hc0 : l0.length ≤ c0) (h : spec_l03Read.f K l0 = some (r1, r2)) :
    Calls Try.prog 70 #[.slice A0 l0.length c0] w fun e w' => ∃ v0_ : Value, e = .returned (.tuple #[v0_, .bool r2]) ∧ Kd.R k95 95 w' w.heap.size (fun _ => True) v0_ r1 ∧ Below w.heap.size w w' := by
  have hu := Try.underlying95
  unfold spec_l03Read.f at h
  have hs : l0.length ≤ 65536 ∧ l0.all (fun x => decide (0 ≤ x) && decide (x < 256)) = true := Decidable.byContradiction fun hs => by rw [if_neg hs] at h; cases h
  rw [if_pos hs] at h
  have hall : ∀ x ∈ l0, 0 ≤ x ∧ x < 256 := by
    have := hs.2
    simp only [List.all_eq_true, Bool.and_eq_true, decide_eq_true_eq] at this
    exact this
  obtain ⟨hlen, _⟩ := hs
  have hlenz : (l0.length : Int) ≤ 65536 := by omega
  have hge : ∀ i : Nat, ∃ x : Nat, l0.getD i 0 = (x : Int) ∧ x ≤ 255 := fun i => by
    by_cases hi : i < l0.length
    · have := hall _ (show l0.getD i 0 ∈ l0 by rw [List.getD_eq_getElem?_getD, List.getElem?_eq_getElem hi]; exact List.getElem_mem hi)
      exact ⟨(l0.getD i 0).toNat, by omega, by omega⟩
    · exact ⟨0, by rw [List.getD_eq_getElem?_getD, List.getElem?_eq_none (by omega)]; rfl, by decide⟩
  obtain ⟨p, hp⟩ : ∃ p, spec_l03Read.all (l0.length + 1) l0 [] = p := ⟨_, rfl⟩
  rw [hp] at h
  have HR := Aside0.mk h
  have HP := Aside0.mk hp
  have HALL := Aside0.mk hall
  have HGE := Aside0.mk hge
  have HC := Aside0.mk hr0
  have HB := Aside0.mk (Below.refl w.heap.size w)
  clear h hp hall hr0 hge
  go_enter Try.func70, Try.ntmps70
  go_wp2_with (first
      | ((with_reducible refine gate_dst (N := 9) rfl ?_); refine Kd.R_lit k95 _ 95 ?hg (N := 9) ?hd (xs := []) (inner := []) (ok := fun _ => True) (okp := fun _ => True) ?hr ?hp (fun _ hk => hk) trivial (Below.refl _ _) (Nat.le_refl _) (by simp) ?_; (case hd => rfl); (case hg => rfl); (case hr => first | (go_simp; done) | (go_simp; rfl)); (case hp => exact Reps.none _ _); intro v126 w5 ho6 hb hg_ hnew_; clear hg_ hnew_; have HO := Aside0.mk ho6; have n1_ := Aside0.mk hb; clear HB; have HB := n1_; clear n1_; clear hb ho6))
  go_loopg [4, 5, 6, 7, 8] l0.length (fun gg s4 s5 _ _ _ wr => ∃ (a F : Nat) (out : List S95), a ≤ l0.length ∧ l0.length - a ≤ gg ∧ s5 = .int .i64 a ∧ out.length ≤ a ∧ Aside0 (l0.length - a < F ∧ spec_l03Read.all F (l0.drop a) out = p) ∧ Aside0 (Kd.R k95 95 wr w.heap.size (fun _ => True) s4 out) ∧ Aside0 (Below w.heap.size w wr))
  case atStart => exact ⟨0, l0.length + 1, [], by omega, by omega, rfl, by simp, ⟨⟨by omega, HP.out⟩⟩, HO, HB⟩
  case round =>
    obtain ⟨a, F, out, ha, hg, rfl, hout, HF, HO, HB⟩ := hrel
    by_cases hlt : a < l0.length
    · have hltz : (a : Int) < (l0.length : Int) := by omega
      obtain ⟨hF, hG⟩ := HF.out
      obtain ⟨F, rfl⟩ : ∃ m, F = m + 1 := ⟨F - 1, by omega⟩
      rw [spec_l03Read.all, if_neg (by rw [List.length_drop]; omega)] at hG
      obtain ⟨k, hk, hk2⟩ := HGE.out a
      obtain ⟨ad, rfl, hx⟩ := Kd.at_int (Kd.C_below HC.out HB.out) (a : Int) (by omega) (by omega)
      rw [Int.toNat_natCast, show rd l0 (a : Int) = l0.getD a 0 by simp [rd], hk] at hx
      have hkz : (k : Int) ≤ 255 := by omega
      have wk : IntKind.i64.wrap (k : Int) = k := by rw [IntKind.wrap_i64]; omega
      obtain ⟨a1, ha1⟩ : ∃ a1 : Nat, a + 1 = a1 := ⟨_, rfl⟩
      obtain ⟨q, hq⟩ : ∃ q : Nat, a + 1 + k = q := ⟨_, rfl⟩
      obtain ⟨q1, hq1⟩ : ∃ q1 : Nat, q + 1 = q1 := ⟨_, rfl⟩
      obtain ⟨q2, hq2⟩ : ∃ q2 : Nat, q + 2 = q2 := ⟨_, rfl⟩
      obtain ⟨k1, hk1⟩ : ∃ k1 : Nat, 1 + k = k1 := ⟨_, rfl⟩
      have b1 : (a1 : Int) ≤ 65537 := by omega
      have b2 : (q : Int) ≤ 66000 := by omega
      have b3 : (k1 : Int) ≤ 256 := by omega
      have E1 := Aside0.mk (show (a : Int) + 1 = a1 by omega)
      have E2 := Aside0.mk (show (a1 : Int) + k = q by omega)
      have E3 := Aside0.mk (show (q : Int) + 2 = q2 by omega)
      have E4 := Aside0.mk (show 1 + (k : Int) = k1 by omega)
      have E5 := Aside0.mk (show (a : Int) + k1 = q by omega)
      have E6 := Aside0.mk (show (q : Int) + 1 = q1 by omega)
      by_cases hf1 : l0.length < q2
      · -- no room for the head
        have hgo := spec_l03Read.go_is l0 a k HALL.out hlt hk 0 (.inl (by omega))
        rw [if_pos (.inl (by omega))] at hgo
        rw [hgo] at hG
        have hG : (out, false) = p := hG
        have hr := HR.out
        rw [← hG] at hr
        have hr : some (out, false) = some (r1, r2) := hr
        injection hr with hr
        injection hr with e1 e2
        subst e1 e2
        have hf1z : (l0.length : Int) < (q2 : Int) := by omega
        clear hgo hG hF HF HR hk ha1 hq hq1 hq2 hk1
        have e1 := E1.out
        have e2 := E2.out
        have e3 := E3.out
        go_wp2
        go_ret2
        exact ⟨_, rfl, HO.out, HB.out⟩
      · obtain ⟨x, hx0, hx2⟩ := HGE.out q
        obtain ⟨y, hy0, hy2⟩ := HGE.out q1
        obtain ⟨ad', e, hxx⟩ := Kd.at_int (Kd.C_below HC.out HB.out) (q : Int) (by omega) (by omega)
        cases e
        obtain ⟨ad', e, hyy⟩ := Kd.at_int (Kd.C_below HC.out HB.out) (q1 : Int) (by omega) (by omega)
        cases e
        rw [Int.toNat_natCast, show rd l0 (q : Int) = l0.getD q 0 by simp [rd], hx0] at hxx
        rw [Int.toNat_natCast, show rd l0 (q1 : Int) = l0.getD q1 0 by simp [rd], hy0] at hyy
        obtain ⟨n, hn⟩ : ∃ n : Nat, x * 256 + y = n := ⟨_, rfl⟩
        have hgo := spec_l03Read.go_is l0 a k HALL.out hlt hk n (.inr (by rw [hq, hq1, hx0, hy0]; omega))
        rw [hq, ha1, hq2] at hgo
        obtain ⟨i0, hi0, _, hsz, _⟩ := info_parts info5
        obtain ⟨A1, c1, r1_, q1_⟩ := print_mid_int (P := Try.prog) (k := .u8) 29 5 Try.underlying29 hi0 hsz (some ad) c0 l0 (a1 : Int) (q : Int) (by omega) (by omega) (by omega) hc0
        rw [Int.toNat_natCast, Int.toNat_natCast] at c1 r1_
        have HK := Aside0.mk (fun W hW => Kd.C_string (P := Try.prog) (A := A1) (c := c0 - a1) Try.underlying29 Try.underlying5 Try.underlying9 (Kd.C_of_reads (h1 := fun _ => rfl) (r1_ W (Kd.reads_of_C (enc := Value.int .u8) (d := (0 : Int)) (h1 := fun _ => rfl) hW))))
        have hf1z : ¬ (l0.length : Int) < (q2 : Int) := by omega
        have hf1g : ¬ (q2 : Int) > (l0.length : Int) := by omega
        have hqz : (q : Int) < (l0.length : Int) := by omega
        have hq1z : (q1 : Int) < (l0.length : Int) := by omega
        have haq : (a1 : Int) ≤ (q : Int) := by omega
        have hql : (q : Int) ≤ (l0.length : Int) := by omega
        have hxz : (x : Int) ≤ 255 := by omega
        have hyz : (y : Int) ≤ 255 := by omega
        have wx : IntKind.i64.wrap (x : Int) = x := by rw [IntKind.wrap_i64]; omega
        have wy : IntKind.i64.wrap (y : Int) = y := by rw [IntKind.wrap_i64]; omega
        have hlq : l0.length ≤ 65536 := hlen
        rcases Nat.eq_zero_or_pos n with rfl | hpos
        · obtain ⟨rfl, rfl⟩ : x = 0 ∧ y = 0 := ⟨by omega, by omega⟩
          rw [if_neg (by omega)] at hgo
          rw [hgo] at hG
          have hG : spec_l03Read.all F (l0.drop (q2 + (0 - 1))) (out ++ [⟨strOfNums ((l0.take q).drop a1), strOfNums ((l0.take (q2 + (0 - 1))).drop q2), (0 == 0)⟩]) = p := hG
          rw [show q2 + (0 - 1) = q2 by omega, show ((0 : Nat) == 0) = true from rfl] at hG
          obtain ⟨A2, c2, r2_, q2_⟩ := print_mid_int (P := Try.prog) (k := .u8) 29 5 Try.underlying29 hi0 hsz (some ad) c0 l0 (q2 : Int) (q2 : Int) (by omega) (by omega) (by omega) hc0
          rw [Int.toNat_natCast] at c2 r2_
          have HV := Aside0.mk (fun W hW => Kd.C_string (P := Try.prog) (A := A2) (c := c0 - q2) Try.underlying29 Try.underlying5 Try.underlying9 (Kd.C_of_reads (h1 := fun _ => rfl) (r2_ W (Kd.reads_of_C (enc := Value.int .u8) (d := (0 : Int)) (h1 := fun _ => rfl) hW))))
          generalize hvl : (l0.take q2).drop q2 = vl at *
          have HVL := Aside0.mk hvl
          have HF2 := Aside0.mk (show l0.length - q2 < F by omega)
          have hq2l : (q2 : Int) ≤ (l0.length : Int) := by omega
          have hm1 : (a : Nat) + 1 ≤ q2 := by omega
          have hql2 : q2 ≤ l0.length := by omega
          clear hvl r2_ q2_ hgo HGE hn

          have hcv1 := HK.out wr (Kd.C_below HC.out HB.out)
          have e1 := E1.out
          have e2 := E2.out
          have e3 := E3.out
          have e4 := E4.out
          have e5 := E5.out
          have e6 := E6.out
          generalize hkey : (l0.take q).drop a1 = key at *
          have HKEY := Aside0.mk hkey
          clear hkey hk ha1 hq hq1 hq2 hk1 r1_ q1_ hi0 hsz hx0 hy0 HF HP hF
          have HG := Aside0.mk hG
          clear hG

          go_wp2_with fail
          obtain ⟨W9, hW9⟩ : ∃ W_, W_ = wr.alloc (.cells #[.string (strOfNums key), .string (⟨#[]⟩ : ByteArray), .bool false] 95) := ⟨_, rfl⟩
          obtain ⟨gb, hgb⟩ : ∃ g_, g_ = wr.heap.size := ⟨_, rfl⟩
          rw [← hW9, ← hgb]
          have hbox : W9.heap[gb]? = some (.cells #[.string (strOfNums key), .string (⟨#[]⟩ : ByteArray), .bool false] 95 (0, 0)) := by rw [hW9, hgb]; exact blk_new _ _
          have BX := Aside0.mk hbox
          have GE := Aside0.mk (show w.heap.size ≤ gb by rw [hgb]; exact below_size HB.out)
          have HB9 := Aside0.mk (show Below w.heap.size w W9 by rw [hW9]; exact below_alloc HB.out _)
          have HO9 := Aside0.mk (show Kd.R k95 95 W9 w.heap.size (fun k => True ∧ k ≠ gb) u4 out by rw [hW9, hgb]; exact Kd.R_alloc (Kd.R_elderB HO.out wr.heap.size (Nat.le_refl _)) _)
          have hxx9 : W9.cell? (ad.add q) = some (.int .u8 (0 : Int)) := by rw [hW9]; exact Lib.cell?_alloc_some _ hxx
          have hyy9 : W9.cell? (ad.add q1) = some (.int .u8 (0 : Int)) := by rw [hW9]; exact Lib.cell?_alloc_some _ hyy
          clear hbox hW9 hgb hxx hyy hx
          have w1 : IntKind.i64.wrap 0 = 0 := by decide
          have w2 : IntKind.i64.wrap (-1) = -1 := by decide
          have w3 : IntKind.i64.wrap (q1 : Int) = q1 := by rw [IntKind.wrap_i64]; omega
          refine start_ (n := 15) (S := fun w' => w'.cell? (ad.add q) = some (.int .u8 (0 : Int)) ∧ w'.cell? (ad.add q1) = some (.int .u8 (0 : Int))) (ds := []) #[false, false, false, false, false, false, false, false, false, false, false, false, false, false, false] (by kernel_rfl) rfl rfl ⟨hxx9, hyy9⟩ (fun hHeld => ?_)
          refine pure_ (i := 0) (N := some 42) (v := ?_) (a' := ?_) #[true, false, false, false, false, false, false, false, false, false, false, false, false, false, false] rfl rfl (by kernel_rfl) (fun _ _ _ h => h) (Or.inl ⟨by rfl, ?_⟩) ?_ ?_
          rotate_left
          · intro w'
            go_simp
            with_reducible rfl
          rotate_left
          · simp only [Act.put, List.setIfInBounds_toArray, List.set_cons_zero, List.set_cons_succ, i64_w, i32_w]
            rfl
          refine pure_ (i := 1) (N := some 43) (v := ?_) (a' := ?_) #[true, true, false, false, false, false, false, false, false, false, false, false, false, false, false] rfl rfl (by kernel_rfl) (fun _ _ _ h => h) (Or.inl ⟨by rfl, ?_⟩) ?_ ?_
          rotate_left
          · intro w'
            go_simp
            with_reducible rfl
          rotate_left
          · simp only [Act.put, List.setIfInBounds_toArray, List.set_cons_zero, List.set_cons_succ, i64_w, i32_w]
            rfl
          refine pure_ (i := 2) (N := some 44) (v := ?_) (a' := ?_) #[true, true, true, false, false, false, false, false, false, false, false, false, false, false, false] rfl rfl (by kernel_rfl) (fun _ _ _ h => h) (Or.inl ⟨by rfl, ?_⟩) ?_ ?_
          rotate_left
          · intro w'
            go_simp
            with_reducible rfl
          rotate_left
          · simp only [Act.put, List.setIfInBounds_toArray, List.set_cons_zero, List.set_cons_succ, i64_w, i32_w]
            rfl
          refine pure_ (i := 6) (N := some 48) (v := ?_) (a' := ?_) #[true, true, true, false, false, false, true, false, false, false, false, false, false, false, false] rfl rfl (by kernel_rfl) (fun _ _ _ h => h) (Or.inl ⟨by rfl, ?_⟩) ?_ ?_
          rotate_left
          · intro w'
            go_simp
            with_reducible rfl
          rotate_left
          · simp only [Act.put, List.setIfInBounds_toArray, List.set_cons_zero, List.set_cons_succ, i64_w, i32_w]
            rfl
          refine pure_ (i := 7) (N := some 49) (v := ?_) (a' := ?_) #[true, true, true, false, false, false, true, true, false, false, false, false, false, false, false] rfl rfl (by kernel_rfl) (fun _ _ _ h => h) (Or.inl ⟨by rfl, ?_⟩) ?_ ?_
          rotate_left
          · intro w'
            go_simp
            with_reducible rfl
          rotate_left
          · simp only [Act.put, List.setIfInBounds_toArray, List.set_cons_zero, List.set_cons_succ, i64_w, i32_w]
            rfl
          refine pure_ (i := 8) (N := some 50) (v := ?_) (a' := ?_) #[true, true, true, false, false, false, true, true, true, false, false, false, false, false, false] rfl rfl (by kernel_rfl) (fun _ _ _ h => h) (Or.inl ⟨by rfl, ?_⟩) ?_ ?_
          rotate_left
          · intro w'
            go_simp
            with_reducible rfl
          rotate_left
          · simp only [Act.put, List.setIfInBounds_toArray, List.set_cons_zero, List.set_cons_succ, i64_w, i32_w]
            rfl
          refine pure_ (i := 9) (N := some 51) (v := ?_) (a' := ?_) #[true, true, true, false, false, false, true, true, true, true, false, false, false, false, false] rfl rfl (by kernel_rfl) (fun _ _ _ h => h) (Or.inl ⟨by rfl, ?_⟩) ?_ ?_
          rotate_left
          · intro w'
            go_simp
            with_reducible rfl
          rotate_left
          · simp only [Act.put, List.setIfInBounds_toArray, List.set_cons_zero, List.set_cons_succ, i64_w, i32_w]
            rfl
          refine take_ (i := 3) (N := some 45) (v := ?_) (a' := ?_) #[true, true, true, true, false, false, true, true, true, true, false, false, false, false, false] rfl rfl (by kernel_rfl) (fun _ _ _ h => h) (Or.inl ⟨by rfl, ?_⟩) hHeld ?_ ?_
          rotate_left
          · rintro w' ⟨s0, s1⟩
            go_simp
            with_reducible rfl
          rotate_left
          · simp only [Act.put, List.setIfInBounds_toArray, List.set_cons_zero, List.set_cons_succ, i64_w, i32_w]
            rfl
          refine pure_ (i := 4) (N := some 46) (v := ?_) (a' := ?_) #[true, true, true, true, true, false, true, true, true, true, false, false, false, false, false] rfl rfl (by kernel_rfl) (fun _ _ _ h => h) (Or.inl ⟨by rfl, ?_⟩) ?_ ?_
          rotate_left
          · intro w'
            go_simp
            with_reducible rfl
          rotate_left
          · simp only [Act.put, List.setIfInBounds_toArray, List.set_cons_zero, List.set_cons_succ, i64_w, i32_w]
            rfl
          refine pure_ (i := 5) (N := some 47) (v := ?_) (a' := ?_) #[true, true, true, true, true, true, true, true, true, true, false, false, false, false, false] rfl rfl (by kernel_rfl) (fun _ _ _ h => h) (Or.inl ⟨by rfl, ?_⟩) ?_ ?_
          rotate_left
          · intro w'
            go_simp
            with_reducible rfl
          rotate_left
          · simp only [Act.put, List.setIfInBounds_toArray, List.set_cons_zero, List.set_cons_succ, i64_w, i32_w]
            rfl
          refine take_ (i := 10) (N := some 52) (v := ?_) (a' := ?_) #[true, true, true, true, true, true, true, true, true, true, true, false, false, false, false] rfl rfl (by kernel_rfl) (fun _ _ _ h => h) (Or.inl ⟨by rfl, ?_⟩) hHeld ?_ ?_
          rotate_left
          · rintro w' ⟨s0, s1⟩
            go_simp
            with_reducible rfl
          rotate_left
          · simp only [Act.put, List.setIfInBounds_toArray, List.set_cons_zero, List.set_cons_succ, i64_w, i32_w]
            rfl
          refine pure_ (i := 11) (N := some 53) (v := ?_) (a' := ?_) #[true, true, true, true, true, true, true, true, true, true, true, true, false, false, false] rfl rfl (by kernel_rfl) (fun _ _ _ h => h) (Or.inl ⟨by rfl, ?_⟩) ?_ ?_
          rotate_left
          · intro w'
            go_simp
            with_reducible rfl
          rotate_left
          · simp only [Act.put, List.setIfInBounds_toArray, List.set_cons_zero, List.set_cons_succ, i64_w, i32_w]
            rfl
          refine pure_ (i := 12) (N := some 54) (v := ?_) (a' := ?_) #[true, true, true, true, true, true, true, true, true, true, true, true, true, false, false] rfl rfl (by kernel_rfl) (fun _ _ _ h => h) (Or.inl ⟨by rfl, ?_⟩) ?_ ?_
          rotate_left
          · intro w'
            go_simp
            with_reducible rfl
          rotate_left
          · simp only [Act.put, List.setIfInBounds_toArray, List.set_cons_zero, List.set_cons_succ, i64_w, i32_w]
            rfl
          refine pure_ (i := 13) (N := some 55) (v := ?_) (a' := ?_) #[true, true, true, true, true, true, true, true, true, true, true, true, true, true, false] rfl rfl (by kernel_rfl) (fun _ _ _ h => h) (Or.inl ⟨by rfl, ?_⟩) ?_ ?_
          rotate_left
          · intro w'
            go_simp
            with_reducible rfl
          rotate_left
          · simp only [Act.put, List.setIfInBounds_toArray, List.set_cons_zero, List.set_cons_succ, i64_w, i32_w]
            rfl
          refine pure_ (i := 14) (N := some 8) (v := ?_) (a' := ?_) #[true, true, true, true, true, true, true, true, true, true, true, true, true, true, true] rfl rfl (by kernel_rfl) (fun _ _ _ h => h) (Or.inl ⟨by rfl, ?_⟩) ?_ ?_
          rotate_left
          · intro w'
            go_simp
            with_reducible rfl
          rotate_left
          · simp only [Act.put, List.setIfInBounds_toArray, List.set_cons_zero, List.set_cons_succ, i64_w, i32_w]
            rfl
          refine done_ (by kernel_rfl) ?_

          clear hxx9 hyy9 hHeld w1 w2 w3
          obtain ⟨WA, hWA⟩ : ∃ W_, W_ = W9.drew := ⟨_, rfl⟩
          rw [← hWA]
          have HBA := Aside0.mk (show Below w.heap.size w WA by rw [hWA]; exact below_drew1 HB9.out)
          have HOA := Aside0.mk (show Kd.R k95 95 WA w.heap.size (fun k => True ∧ k ≠ gb) u4 out by rw [hWA]; exact Kd.R_drew HO9.out)
          have BXA := Aside0.mk (show WA.heap[gb]? = some (.cells #[.string (strOfNums key), .string (⟨#[]⟩ : ByteArray), .bool false] 95 (0, 0)) by rw [hWA]; exact BX.out)
          clear hWA HB9 HO9 BX
          have y0 : WA.cell? ⟨gb, 0, none⟩ = some (.string (strOfNums key)) := (blk_cell BXA.out 0).trans rfl
          have y1 : WA.cell? ⟨gb, 1, none⟩ = some (.string (⟨#[]⟩ : ByteArray)) := (blk_cell BXA.out 1).trans rfl
          have y2 : WA.cell? ⟨gb, 2, none⟩ = some (.bool false) := (blk_cell BXA.out 2).trans rfl
          have z0 : WA.frozen? ⟨gb, 0, none⟩ = false := blk_frozen BXA.out 0
          have z1 : WA.frozen? ⟨gb, 1, none⟩ = false := blk_frozen BXA.out 1
          have z2 : WA.frozen? ⟨gb, 2, none⟩ = false := blk_frozen BXA.out 2

          have hcv2 : (convert 29 9 (.slice A2 vl.length (c0 - q2))).run Try.prog (WA.setCell ⟨gb, 2, none⟩ (.bool true)) = .ok (.string (strOfNums vl)) (WA.setCell ⟨gb, 2, none⟩ (.bool true)) := HV.out _ (Kd.C_below HC.out (below_set HBA.out GE.out))

          go_wp2_with ((with_reducible refine gate_builtin (b := .append) (xs := #[.tmp 79, .tmp 81]) rfl ?_); at_builtin; refine Kd.R_append k95 (w0 := w) w.heap.size rfl (.tmp 79) (.tmp 81) 67 95 (.agg #[(.string ⟨#[]⟩), (.string ⟨#[]⟩), (.bool false)]) 40 rfl Try.underlying67 info95 rfl (by decide) (by omega) u4 out (⟨strOfNums key, strOfNums vl, true⟩ : S95) [.string (strOfNums key), .string (strOfNums vl), .bool true] (fun _ => True) (fun _ => False) rfl (by first | (go_simp; done) | (go_simp; rfl)) ?aP (fun _ hk => hk.elim) ?aF ?aO ?aB ?aS ?aL ?_; (case aP => exact k95_mkM _ _ _ (⟨strOfNums key, strOfNums vl, true⟩ : S95)); (case aF => exact (fun _ _ => trivial)); (case aO => exact Kd.R_mono (Kd.R_far (p := ⟨gb, 1, none⟩) (Kd.R_far (p := ⟨gb, 2, none⟩) (HOA.out) (fun _ hk => hk.2) _) (fun _ hk => hk.2) _) (fun _ _ => trivial)); (case aB => exact (below_set (below_set HBA.out GE.out) GE.out)); (case aS => exact below_size (below_set (below_set HBA.out GE.out) GE.out)); (case aL => omega); intro v5 w5 ho hb hg_ hat; have HO5 := Aside0.mk ho; have HB5 := Aside0.mk hb; clear ho hb hg_ hat)

          go_roundg (l0.length - q2)
          case measure => omega
          case rel => exact ⟨q2, F, out ++ [⟨strOfNums key, strOfNums vl, true⟩], hql2, Nat.le_refl _, rfl, by rw [List.length_append]; simp; omega, ⟨⟨HF2.out, HG.out⟩⟩, HO5, HB5⟩
        · obtain ⟨j, rfl⟩ : ∃ j, n = j + 1 := ⟨n - 1, by omega⟩
          have hjz : (j : Int) ≤ 65534 := by omega
          have E7 := Aside0.mk (show (x : Int) * 256 + (y : Int) = (j : Int) + 1 by omega)
          have hjw : (j : Int) + 1 - 1 = j := by omega
          have hjn : ¬ ((j : Int) < 0) := by omega
          obtain ⟨q3, hq3⟩ : ∃ q3 : Nat, q2 + j = q3 := ⟨_, rfl⟩
          have b4 : (q3 : Int) ≤ 140000 := by omega
          have E8 := Aside0.mk (show (q2 : Int) + j = q3 by omega)
          rw [show q2 + (j + 1 - 1) = q3 by omega] at hgo
          by_cases hf2 : l0.length < q3
          · rw [if_pos (.inr hf2)] at hgo
            rw [hgo] at hG
            have hG : (out, false) = p := hG
            have hr := HR.out
            rw [← hG] at hr
            have hr : some (out, false) = some (r1, r2) := hr
            injection hr with hr
            injection hr with e1 e2
            subst e1 e2
            have hf2z : (l0.length : Int) < (q3 : Int) := by omega
            clear hgo hG HR HGE hn hq3

            have hcv1 := HK.out wr (Kd.C_below HC.out HB.out)
            have e1 := E1.out
            have e2 := E2.out
            have e3 := E3.out
            have e4 := E4.out
            have e5 := E5.out
            have e6 := E6.out
            generalize hkey : (l0.take q).drop a1 = key at *
            have HKEY := Aside0.mk hkey
            clear hkey hk ha1 hq hq1 hq2 hk1 r1_ q1_ hi0 hsz hx0 hy0 HF HP hF

            go_wp2_with fail
            obtain ⟨W9, hW9⟩ : ∃ W_, W_ = wr.alloc (.cells #[.string (strOfNums key), .string (⟨#[]⟩ : ByteArray), .bool false] 95) := ⟨_, rfl⟩
            obtain ⟨gb, hgb⟩ : ∃ g_, g_ = wr.heap.size := ⟨_, rfl⟩
            rw [← hW9, ← hgb]
            have hbox : W9.heap[gb]? = some (.cells #[.string (strOfNums key), .string (⟨#[]⟩ : ByteArray), .bool false] 95 (0, 0)) := by rw [hW9, hgb]; exact blk_new _ _
            have BX := Aside0.mk hbox
            have GE := Aside0.mk (show w.heap.size ≤ gb by rw [hgb]; exact below_size HB.out)
            have HB9 := Aside0.mk (show Below w.heap.size w W9 by rw [hW9]; exact below_alloc HB.out _)
            have HO9 := Aside0.mk (show Kd.R k95 95 W9 w.heap.size (fun k => True ∧ k ≠ gb) u4 out by rw [hW9, hgb]; exact Kd.R_alloc (Kd.R_elderB HO.out wr.heap.size (Nat.le_refl _)) _)
            have hxx9 : W9.cell? (ad.add q) = some (.int .u8 (x : Int)) := by rw [hW9]; exact Lib.cell?_alloc_some _ hxx
            have hyy9 : W9.cell? (ad.add q1) = some (.int .u8 (y : Int)) := by rw [hW9]; exact Lib.cell?_alloc_some _ hyy
            clear hbox hW9 hgb hxx hyy hx
            have w1 : IntKind.i64.wrap ((x : Int) * 256) = (x : Int) * 256 := by rw [IntKind.wrap_i64]; omega
            have w2 : IntKind.i64.wrap ((x : Int) * 256 + (y : Int)) = (x : Int) * 256 + (y : Int) := by rw [IntKind.wrap_i64]; omega
            have w4 : IntKind.i64.wrap ((x : Int) * 256 + (y : Int) - 1) = (x : Int) * 256 + (y : Int) - 1 := by rw [IntKind.wrap_i64]; omega
            have w3 : IntKind.i64.wrap (q1 : Int) = q1 := by rw [IntKind.wrap_i64]; omega
            refine start_ (n := 15) (S := fun w' => w'.cell? (ad.add q) = some (.int .u8 (x : Int)) ∧ w'.cell? (ad.add q1) = some (.int .u8 (y : Int))) (ds := []) #[false, false, false, false, false, false, false, false, false, false, false, false, false, false, false] (by kernel_rfl) rfl rfl ⟨hxx9, hyy9⟩ (fun hHeld => ?_)
            refine pure_ (i := 0) (N := some 42) (v := ?_) (a' := ?_) #[true, false, false, false, false, false, false, false, false, false, false, false, false, false, false] rfl rfl (by kernel_rfl) (fun _ _ _ h => h) (Or.inl ⟨by rfl, ?_⟩) ?_ ?_
            rotate_left
            · intro w'
              go_simp
              with_reducible rfl
            rotate_left
            · simp only [Act.put, List.setIfInBounds_toArray, List.set_cons_zero, List.set_cons_succ, i64_w, i32_w]
              rfl
            refine pure_ (i := 1) (N := some 43) (v := ?_) (a' := ?_) #[true, true, false, false, false, false, false, false, false, false, false, false, false, false, false] rfl rfl (by kernel_rfl) (fun _ _ _ h => h) (Or.inl ⟨by rfl, ?_⟩) ?_ ?_
            rotate_left
            · intro w'
              go_simp
              with_reducible rfl
            rotate_left
            · simp only [Act.put, List.setIfInBounds_toArray, List.set_cons_zero, List.set_cons_succ, i64_w, i32_w]
              rfl
            refine pure_ (i := 2) (N := some 44) (v := ?_) (a' := ?_) #[true, true, true, false, false, false, false, false, false, false, false, false, false, false, false] rfl rfl (by kernel_rfl) (fun _ _ _ h => h) (Or.inl ⟨by rfl, ?_⟩) ?_ ?_
            rotate_left
            · intro w'
              go_simp
              with_reducible rfl
            rotate_left
            · simp only [Act.put, List.setIfInBounds_toArray, List.set_cons_zero, List.set_cons_succ, i64_w, i32_w]
              rfl
            refine pure_ (i := 6) (N := some 48) (v := ?_) (a' := ?_) #[true, true, true, false, false, false, true, false, false, false, false, false, false, false, false] rfl rfl (by kernel_rfl) (fun _ _ _ h => h) (Or.inl ⟨by rfl, ?_⟩) ?_ ?_
            rotate_left
            · intro w'
              go_simp
              with_reducible rfl
            rotate_left
            · simp only [Act.put, List.setIfInBounds_toArray, List.set_cons_zero, List.set_cons_succ, i64_w, i32_w]
              rfl
            refine pure_ (i := 7) (N := some 49) (v := ?_) (a' := ?_) #[true, true, true, false, false, false, true, true, false, false, false, false, false, false, false] rfl rfl (by kernel_rfl) (fun _ _ _ h => h) (Or.inl ⟨by rfl, ?_⟩) ?_ ?_
            rotate_left
            · intro w'
              go_simp
              with_reducible rfl
            rotate_left
            · simp only [Act.put, List.setIfInBounds_toArray, List.set_cons_zero, List.set_cons_succ, i64_w, i32_w]
              rfl
            refine pure_ (i := 8) (N := some 50) (v := ?_) (a' := ?_) #[true, true, true, false, false, false, true, true, true, false, false, false, false, false, false] rfl rfl (by kernel_rfl) (fun _ _ _ h => h) (Or.inl ⟨by rfl, ?_⟩) ?_ ?_
            rotate_left
            · intro w'
              go_simp
              with_reducible rfl
            rotate_left
            · simp only [Act.put, List.setIfInBounds_toArray, List.set_cons_zero, List.set_cons_succ, i64_w, i32_w]
              rfl
            refine pure_ (i := 9) (N := some 51) (v := ?_) (a' := ?_) #[true, true, true, false, false, false, true, true, true, true, false, false, false, false, false] rfl rfl (by kernel_rfl) (fun _ _ _ h => h) (Or.inl ⟨by rfl, ?_⟩) ?_ ?_
            rotate_left
            · intro w'
              go_simp
              with_reducible rfl
            rotate_left
            · simp only [Act.put, List.setIfInBounds_toArray, List.set_cons_zero, List.set_cons_succ, i64_w, i32_w]
              rfl
            refine take_ (i := 3) (N := some 45) (v := ?_) (a' := ?_) #[true, true, true, true, false, false, true, true, true, true, false, false, false, false, false] rfl rfl (by kernel_rfl) (fun _ _ _ h => h) (Or.inl ⟨by rfl, ?_⟩) hHeld ?_ ?_
            rotate_left
            · rintro w' ⟨s0, s1⟩
              go_simp
              with_reducible rfl
            rotate_left
            · simp only [Act.put, List.setIfInBounds_toArray, List.set_cons_zero, List.set_cons_succ, i64_w, i32_w]
              rfl
            refine pure_ (i := 4) (N := some 46) (v := ?_) (a' := ?_) #[true, true, true, true, true, false, true, true, true, true, false, false, false, false, false] rfl rfl (by kernel_rfl) (fun _ _ _ h => h) (Or.inl ⟨by rfl, ?_⟩) ?_ ?_
            rotate_left
            · intro w'
              go_simp
              with_reducible rfl
            rotate_left
            · simp only [Act.put, List.setIfInBounds_toArray, List.set_cons_zero, List.set_cons_succ, i64_w, i32_w]
              rfl
            refine pure_ (i := 5) (N := some 47) (v := ?_) (a' := ?_) #[true, true, true, true, true, true, true, true, true, true, false, false, false, false, false] rfl rfl (by kernel_rfl) (fun _ _ _ h => h) (Or.inl ⟨by rfl, ?_⟩) ?_ ?_
            rotate_left
            · intro w'
              go_simp
              with_reducible rfl
            rotate_left
            · simp only [Act.put, List.setIfInBounds_toArray, List.set_cons_zero, List.set_cons_succ, i64_w, i32_w]
              rfl
            refine take_ (i := 10) (N := some 52) (v := ?_) (a' := ?_) #[true, true, true, true, true, true, true, true, true, true, true, false, false, false, false] rfl rfl (by kernel_rfl) (fun _ _ _ h => h) (Or.inl ⟨by rfl, ?_⟩) hHeld ?_ ?_
            rotate_left
            · rintro w' ⟨s0, s1⟩
              go_simp
              with_reducible rfl
            rotate_left
            · simp only [Act.put, List.setIfInBounds_toArray, List.set_cons_zero, List.set_cons_succ, i64_w, i32_w]
              rfl
            refine pure_ (i := 11) (N := some 53) (v := ?_) (a' := ?_) #[true, true, true, true, true, true, true, true, true, true, true, true, false, false, false] rfl rfl (by kernel_rfl) (fun _ _ _ h => h) (Or.inl ⟨by rfl, ?_⟩) ?_ ?_
            rotate_left
            · intro w'
              go_simp
              with_reducible rfl
            rotate_left
            · simp only [Act.put, List.setIfInBounds_toArray, List.set_cons_zero, List.set_cons_succ, i64_w, i32_w]
              rfl
            refine pure_ (i := 12) (N := some 54) (v := ?_) (a' := ?_) #[true, true, true, true, true, true, true, true, true, true, true, true, true, false, false] rfl rfl (by kernel_rfl) (fun _ _ _ h => h) (Or.inl ⟨by rfl, ?_⟩) ?_ ?_
            rotate_left
            · intro w'
              go_simp
              with_reducible rfl
            rotate_left
            · simp only [Act.put, List.setIfInBounds_toArray, List.set_cons_zero, List.set_cons_succ, i64_w, i32_w]
              rfl
            refine pure_ (i := 13) (N := some 55) (v := ?_) (a' := ?_) #[true, true, true, true, true, true, true, true, true, true, true, true, true, true, false] rfl rfl (by kernel_rfl) (fun _ _ _ h => h) (Or.inl ⟨by rfl, ?_⟩) ?_ ?_
            rotate_left
            · intro w'
              go_simp
              with_reducible rfl
            rotate_left
            · simp only [Act.put, List.setIfInBounds_toArray, List.set_cons_zero, List.set_cons_succ, i64_w, i32_w]
              rfl
            refine pure_ (i := 14) (N := some 8) (v := ?_) (a' := ?_) #[true, true, true, true, true, true, true, true, true, true, true, true, true, true, true] rfl rfl (by kernel_rfl) (fun _ _ _ h => h) (Or.inl ⟨by rfl, ?_⟩) ?_ ?_
            rotate_left
            · intro w'
              go_simp
              with_reducible rfl
            rotate_left
            · simp only [Act.put, List.setIfInBounds_toArray, List.set_cons_zero, List.set_cons_succ, i64_w, i32_w]
              rfl
            refine done_ (by kernel_rfl) ?_

            clear hxx9 hyy9 hHeld w1 w2 w3
            obtain ⟨WA, hWA⟩ : ∃ W_, W_ = W9.drew := ⟨_, rfl⟩
            rw [← hWA]
            have HBA := Aside0.mk (show Below w.heap.size w WA by rw [hWA]; exact below_drew1 HB9.out)
            have HOA := Aside0.mk (show Kd.R k95 95 WA w.heap.size (fun k => True ∧ k ≠ gb) u4 out by rw [hWA]; exact Kd.R_drew HO9.out)
            have BXA := Aside0.mk (show WA.heap[gb]? = some (.cells #[.string (strOfNums key), .string (⟨#[]⟩ : ByteArray), .bool false] 95 (0, 0)) by rw [hWA]; exact BX.out)
            clear hWA HB9 HO9 BX
            have y0 : WA.cell? ⟨gb, 0, none⟩ = some (.string (strOfNums key)) := (blk_cell BXA.out 0).trans rfl
            have y1 : WA.cell? ⟨gb, 1, none⟩ = some (.string (⟨#[]⟩ : ByteArray)) := (blk_cell BXA.out 1).trans rfl
            have y2 : WA.cell? ⟨gb, 2, none⟩ = some (.bool false) := (blk_cell BXA.out 2).trans rfl
            have z0 : WA.frozen? ⟨gb, 0, none⟩ = false := blk_frozen BXA.out 0
            have z1 : WA.frozen? ⟨gb, 1, none⟩ = false := blk_frozen BXA.out 1
            have z2 : WA.frozen? ⟨gb, 2, none⟩ = false := blk_frozen BXA.out 2

            have e7 := E7.out
            have e8 := E8.out
            go_wp2
            go_ret2
            exact ⟨_, rfl, Kd.R_mono HOA.out (fun _ _ => trivial), HBA.out⟩
          · rw [if_neg (by omega)] at hgo
            rw [hgo] at hG
            have hG : spec_l03Read.all F (l0.drop q3) (out ++ [⟨strOfNums ((l0.take q).drop a1), strOfNums ((l0.take q3).drop q2), (j + 1 == 0)⟩]) = p := hG
            rw [show ((j + 1 : Nat) == 0) = false from rfl] at hG
            obtain ⟨A2, c2, r2_, q2_⟩ := print_mid_int (P := Try.prog) (k := .u8) 29 5 Try.underlying29 hi0 hsz (some ad) c0 l0 (q2 : Int) (q3 : Int) (by omega) (by omega) (by omega) hc0
            rw [Int.toNat_natCast, Int.toNat_natCast] at c2 r2_
            have HV := Aside0.mk (fun W hW => Kd.C_string (P := Try.prog) (A := A2) (c := c0 - q2) Try.underlying29 Try.underlying5 Try.underlying9 (Kd.C_of_reads (h1 := fun _ => rfl) (r2_ W (Kd.reads_of_C (enc := Value.int .u8) (d := (0 : Int)) (h1 := fun _ => rfl) hW))))
            generalize hvl : (l0.take q3).drop q2 = vl at *
            have HVL := Aside0.mk hvl
            have HF2 := Aside0.mk (show l0.length - q3 < F by omega)
            have hf2z : ¬ (l0.length : Int) < (q3 : Int) := by omega
            have hf2g : ¬ (q3 : Int) > (l0.length : Int) := by omega
            have hq2l : (q3 : Int) ≤ (l0.length : Int) := by omega
            have hq23 : (q2 : Int) ≤ (q3 : Int) := by omega
            have hm1 : (a : Nat) + 1 ≤ q3 := by omega
            have hql2 : q3 ≤ l0.length := by omega
            clear hvl r2_ q2_ hgo HGE hn hq3

            have hcv1 := HK.out wr (Kd.C_below HC.out HB.out)
            have e1 := E1.out
            have e2 := E2.out
            have e3 := E3.out
            have e4 := E4.out
            have e5 := E5.out
            have e6 := E6.out
            generalize hkey : (l0.take q).drop a1 = key at *
            have HKEY := Aside0.mk hkey
            clear hkey hk ha1 hq hq1 hq2 hk1 r1_ q1_ hi0 hsz hx0 hy0 HF HP hF
            have HG := Aside0.mk hG
            clear hG

            go_wp2_with fail
            obtain ⟨W9, hW9⟩ : ∃ W_, W_ = wr.alloc (.cells #[.string (strOfNums key), .string (⟨#[]⟩ : ByteArray), .bool false] 95) := ⟨_, rfl⟩
            obtain ⟨gb, hgb⟩ : ∃ g_, g_ = wr.heap.size := ⟨_, rfl⟩
            rw [← hW9, ← hgb]
            have hbox : W9.heap[gb]? = some (.cells #[.string (strOfNums key), .string (⟨#[]⟩ : ByteArray), .bool false] 95 (0, 0)) := by rw [hW9, hgb]; exact blk_new _ _
            have BX := Aside0.mk hbox
            have GE := Aside0.mk (show w.heap.size ≤ gb by rw [hgb]; exact below_size HB.out)
            have HB9 := Aside0.mk (show Below w.heap.size w W9 by rw [hW9]; exact below_alloc HB.out _)
            have HO9 := Aside0.mk (show Kd.R k95 95 W9 w.heap.size (fun k => True ∧ k ≠ gb) u4 out by rw [hW9, hgb]; exact Kd.R_alloc (Kd.R_elderB HO.out wr.heap.size (Nat.le_refl _)) _)
            have hxx9 : W9.cell? (ad.add q) = some (.int .u8 (x : Int)) := by rw [hW9]; exact Lib.cell?_alloc_some _ hxx
            have hyy9 : W9.cell? (ad.add q1) = some (.int .u8 (y : Int)) := by rw [hW9]; exact Lib.cell?_alloc_some _ hyy
            clear hbox hW9 hgb hxx hyy hx
            have w1 : IntKind.i64.wrap ((x : Int) * 256) = (x : Int) * 256 := by rw [IntKind.wrap_i64]; omega
            have w2 : IntKind.i64.wrap ((x : Int) * 256 + (y : Int)) = (x : Int) * 256 + (y : Int) := by rw [IntKind.wrap_i64]; omega
            have w4 : IntKind.i64.wrap ((x : Int) * 256 + (y : Int) - 1) = (x : Int) * 256 + (y : Int) - 1 := by rw [IntKind.wrap_i64]; omega
            have w3 : IntKind.i64.wrap (q1 : Int) = q1 := by rw [IntKind.wrap_i64]; omega
            refine start_ (n := 15) (S := fun w' => w'.cell? (ad.add q) = some (.int .u8 (x : Int)) ∧ w'.cell? (ad.add q1) = some (.int .u8 (y : Int))) (ds := []) #[false, false, false, false, false, false, false, false, false, false, false, false, false, false, false] (by kernel_rfl) rfl rfl ⟨hxx9, hyy9⟩ (fun hHeld => ?_)
            refine pure_ (i := 0) (N := some 42) (v := ?_) (a' := ?_) #[true, false, false, false, false, false, false, false, false, false, false, false, false, false, false] rfl rfl (by kernel_rfl) (fun _ _ _ h => h) (Or.inl ⟨by rfl, ?_⟩) ?_ ?_
            rotate_left
            · intro w'
              go_simp
              with_reducible rfl
            rotate_left
            · simp only [Act.put, List.setIfInBounds_toArray, List.set_cons_zero, List.set_cons_succ, i64_w, i32_w]
              rfl
            refine pure_ (i := 1) (N := some 43) (v := ?_) (a' := ?_) #[true, true, false, false, false, false, false, false, false, false, false, false, false, false, false] rfl rfl (by kernel_rfl) (fun _ _ _ h => h) (Or.inl ⟨by rfl, ?_⟩) ?_ ?_
            rotate_left
            · intro w'
              go_simp
              with_reducible rfl
            rotate_left
            · simp only [Act.put, List.setIfInBounds_toArray, List.set_cons_zero, List.set_cons_succ, i64_w, i32_w]
              rfl
            refine pure_ (i := 2) (N := some 44) (v := ?_) (a' := ?_) #[true, true, true, false, false, false, false, false, false, false, false, false, false, false, false] rfl rfl (by kernel_rfl) (fun _ _ _ h => h) (Or.inl ⟨by rfl, ?_⟩) ?_ ?_
            rotate_left
            · intro w'
              go_simp
              with_reducible rfl
            rotate_left
            · simp only [Act.put, List.setIfInBounds_toArray, List.set_cons_zero, List.set_cons_succ, i64_w, i32_w]
              rfl
            refine pure_ (i := 6) (N := some 48) (v := ?_) (a' := ?_) #[true, true, true, false, false, false, true, false, false, false, false, false, false, false, false] rfl rfl (by kernel_rfl) (fun _ _ _ h => h) (Or.inl ⟨by rfl, ?_⟩) ?_ ?_
            rotate_left
            · intro w'
              go_simp
              with_reducible rfl
            rotate_left
            · simp only [Act.put, List.setIfInBounds_toArray, List.set_cons_zero, List.set_cons_succ, i64_w, i32_w]
              rfl
            refine pure_ (i := 7) (N := some 49) (v := ?_) (a' := ?_) #[true, true, true, false, false, false, true, true, false, false, false, false, false, false, false] rfl rfl (by kernel_rfl) (fun _ _ _ h => h) (Or.inl ⟨by rfl, ?_⟩) ?_ ?_
            rotate_left
            · intro w'
              go_simp
              with_reducible rfl
            rotate_left
            · simp only [Act.put, List.setIfInBounds_toArray, List.set_cons_zero, List.set_cons_succ, i64_w, i32_w]
              rfl
            refine pure_ (i := 8) (N := some 50) (v := ?_) (a' := ?_) #[true, true, true, false, false, false, true, true, true, false, false, false, false, false, false] rfl rfl (by kernel_rfl) (fun _ _ _ h => h) (Or.inl ⟨by rfl, ?_⟩) ?_ ?_
            rotate_left
            · intro w'
              go_simp
              with_reducible rfl
            rotate_left
            · simp only [Act.put, List.setIfInBounds_toArray, List.set_cons_zero, List.set_cons_succ, i64_w, i32_w]
              rfl
            refine pure_ (i := 9) (N := some 51) (v := ?_) (a' := ?_) #[true, true, true, false, false, false, true, true, true, true, false, false, false, false, false] rfl rfl (by kernel_rfl) (fun _ _ _ h => h) (Or.inl ⟨by rfl, ?_⟩) ?_ ?_
            rotate_left
            · intro w'
              go_simp
              with_reducible rfl
            rotate_left
            · simp only [Act.put, List.setIfInBounds_toArray, List.set_cons_zero, List.set_cons_succ, i64_w, i32_w]
              rfl
            refine take_ (i := 3) (N := some 45) (v := ?_) (a' := ?_) #[true, true, true, true, false, false, true, true, true, true, false, false, false, false, false] rfl rfl (by kernel_rfl) (fun _ _ _ h => h) (Or.inl ⟨by rfl, ?_⟩) hHeld ?_ ?_
            rotate_left
            · rintro w' ⟨s0, s1⟩
              go_simp
              with_reducible rfl
            rotate_left
            · simp only [Act.put, List.setIfInBounds_toArray, List.set_cons_zero, List.set_cons_succ, i64_w, i32_w]
              rfl
            refine pure_ (i := 4) (N := some 46) (v := ?_) (a' := ?_) #[true, true, true, true, true, false, true, true, true, true, false, false, false, false, false] rfl rfl (by kernel_rfl) (fun _ _ _ h => h) (Or.inl ⟨by rfl, ?_⟩) ?_ ?_
            rotate_left
            · intro w'
              go_simp
              with_reducible rfl
            rotate_left
            · simp only [Act.put, List.setIfInBounds_toArray, List.set_cons_zero, List.set_cons_succ, i64_w, i32_w]
              rfl
            refine pure_ (i := 5) (N := some 47) (v := ?_) (a' := ?_) #[true, true, true, true, true, true, true, true, true, true, false, false, false, false, false] rfl rfl (by kernel_rfl) (fun _ _ _ h => h) (Or.inl ⟨by rfl, ?_⟩) ?_ ?_
            rotate_left
            · intro w'
              go_simp
              with_reducible rfl
            rotate_left
            · simp only [Act.put, List.setIfInBounds_toArray, List.set_cons_zero, List.set_cons_succ, i64_w, i32_w]
              rfl
            refine take_ (i := 10) (N := some 52) (v := ?_) (a' := ?_) #[true, true, true, true, true, true, true, true, true, true, true, false, false, false, false] rfl rfl (by kernel_rfl) (fun _ _ _ h => h) (Or.inl ⟨by rfl, ?_⟩) hHeld ?_ ?_
            rotate_left
            · rintro w' ⟨s0, s1⟩
              go_simp
              with_reducible rfl
            rotate_left
            · simp only [Act.put, List.setIfInBounds_toArray, List.set_cons_zero, List.set_cons_succ, i64_w, i32_w]
              rfl
            refine pure_ (i := 11) (N := some 53) (v := ?_) (a' := ?_) #[true, true, true, true, true, true, true, true, true, true, true, true, false, false, false] rfl rfl (by kernel_rfl) (fun _ _ _ h => h) (Or.inl ⟨by rfl, ?_⟩) ?_ ?_
            rotate_left
            · intro w'
              go_simp
              with_reducible rfl
            rotate_left
            · simp only [Act.put, List.setIfInBounds_toArray, List.set_cons_zero, List.set_cons_succ, i64_w, i32_w]
              rfl
            refine pure_ (i := 12) (N := some 54) (v := ?_) (a' := ?_) #[true, true, true, true, true, true, true, true, true, true, true, true, true, false, false] rfl rfl (by kernel_rfl) (fun _ _ _ h => h) (Or.inl ⟨by rfl, ?_⟩) ?_ ?_
            rotate_left
            · intro w'
              go_simp
              with_reducible rfl
            rotate_left
            · simp only [Act.put, List.setIfInBounds_toArray, List.set_cons_zero, List.set_cons_succ, i64_w, i32_w]
              rfl
            refine pure_ (i := 13) (N := some 55) (v := ?_) (a' := ?_) #[true, true, true, true, true, true, true, true, true, true, true, true, true, true, false] rfl rfl (by kernel_rfl) (fun _ _ _ h => h) (Or.inl ⟨by rfl, ?_⟩) ?_ ?_
            rotate_left
            · intro w'
              go_simp
              with_reducible rfl
            rotate_left
            · simp only [Act.put, List.setIfInBounds_toArray, List.set_cons_zero, List.set_cons_succ, i64_w, i32_w]
              rfl
            refine pure_ (i := 14) (N := some 8) (v := ?_) (a' := ?_) #[true, true, true, true, true, true, true, true, true, true, true, true, true, true, true] rfl rfl (by kernel_rfl) (fun _ _ _ h => h) (Or.inl ⟨by rfl, ?_⟩) ?_ ?_
            rotate_left
            · intro w'
              go_simp
              with_reducible rfl
            rotate_left
            · simp only [Act.put, List.setIfInBounds_toArray, List.set_cons_zero, List.set_cons_succ, i64_w, i32_w]
              rfl
            refine done_ (by kernel_rfl) ?_

            clear hxx9 hyy9 hHeld w1 w2 w3
            obtain ⟨WA, hWA⟩ : ∃ W_, W_ = W9.drew := ⟨_, rfl⟩
            rw [← hWA]
            have HBA := Aside0.mk (show Below w.heap.size w WA by rw [hWA]; exact below_drew1 HB9.out)
            have HOA := Aside0.mk (show Kd.R k95 95 WA w.heap.size (fun k => True ∧ k ≠ gb) u4 out by rw [hWA]; exact Kd.R_drew HO9.out)
            have BXA := Aside0.mk (show WA.heap[gb]? = some (.cells #[.string (strOfNums key), .string (⟨#[]⟩ : ByteArray), .bool false] 95 (0, 0)) by rw [hWA]; exact BX.out)
            clear hWA HB9 HO9 BX
            have y0 : WA.cell? ⟨gb, 0, none⟩ = some (.string (strOfNums key)) := (blk_cell BXA.out 0).trans rfl
            have y1 : WA.cell? ⟨gb, 1, none⟩ = some (.string (⟨#[]⟩ : ByteArray)) := (blk_cell BXA.out 1).trans rfl
            have y2 : WA.cell? ⟨gb, 2, none⟩ = some (.bool false) := (blk_cell BXA.out 2).trans rfl
            have z0 : WA.frozen? ⟨gb, 0, none⟩ = false := blk_frozen BXA.out 0
            have z1 : WA.frozen? ⟨gb, 1, none⟩ = false := blk_frozen BXA.out 1
            have z2 : WA.frozen? ⟨gb, 2, none⟩ = false := blk_frozen BXA.out 2

            have e7 := E7.out
            have e8 := E8.out
            have hcv2 : (convert 29 9 (.slice A2 vl.length (c0 - q2))).run Try.prog WA = .ok (.string (strOfNums vl)) WA := HV.out _ (Kd.C_below HC.out HBA.out)

            go_wp2_with ((with_reducible refine gate_builtin (b := .append) (xs := #[.tmp 79, .tmp 81]) rfl ?_); at_builtin; refine Kd.R_append k95 (w0 := w) w.heap.size rfl (.tmp 79) (.tmp 81) 67 95 (.agg #[(.string ⟨#[]⟩), (.string ⟨#[]⟩), (.bool false)]) 40 rfl Try.underlying67 info95 rfl (by decide) (by omega) u4 out (⟨strOfNums key, strOfNums vl, false⟩ : S95) [.string (strOfNums key), .string (strOfNums vl), .bool false] (fun _ => True) (fun _ => False) rfl (by first | (go_simp; done) | (go_simp; rfl)) ?aP (fun _ hk => hk.elim) ?aF ?aO ?aB ?aS ?aL ?_; (case aP => exact k95_mkM _ _ _ (⟨strOfNums key, strOfNums vl, false⟩ : S95)); (case aF => exact (fun _ _ => trivial)); (case aO => exact Kd.R_mono (Kd.R_far (p := ⟨gb, 1, none⟩) (HOA.out) (fun _ hk => hk.2) _) (fun _ _ => trivial)); (case aB => exact (below_set HBA.out GE.out)); (case aS => exact below_size (below_set HBA.out GE.out)); (case aL => omega); intro v5 w5 ho hb hg_ hat; have HO5 := Aside0.mk ho; have HB5 := Aside0.mk hb; clear ho hb hg_ hat)

            go_roundg (l0.length - q3)
            case measure => omega
            case rel => exact ⟨q3, F, out ++ [⟨strOfNums key, strOfNums vl, false⟩], hql2, Nat.le_refl _, rfl, by rw [List.length_append]; simp; omega, ⟨⟨HF2.out, HG.out⟩⟩, HO5, HB5⟩
    · have hltz : ¬ (a : Int) < (l0.length : Int) := by omega
      obtain ⟨hF, hG⟩ := HF.out
      obtain ⟨F, rfl⟩ : ∃ m, F = m + 1 := ⟨F - 1, by omega⟩
      rw [spec_l03Read.all, if_pos (by rw [List.length_drop]; omega)] at hG
      have hr := HR.out
      rw [← hG] at hr
      have hr : ((spec_l03Batch.f K out).bind fun b => some (out, b)) = some (r1, r2) := hr
      obtain ⟨b, hb1, hb2⟩ := Option.bind_eq_some_iff.mp hr
      injection hb2 with hb2
      injection hb2 with e1 e2
      subst e1 e2
      have HBT := Aside0.mk hb1
      obtain ⟨A4, c4, rfl⟩ := Kd.R_slice HO.out
      obtain ⟨_, hc4, hC4⟩ := Kd.R_reads' HO.out
      have HQ := Aside0.mk (spec_l03Batch.calls K A4 c4 out b wr hC4 hc4 hb1)
      clear hG hr hb1 hF HF HR hC4 hc4
      go_wp2_with ((with_reducible refine (HQ.out).mono ?_); rintro e w6 ⟨rfl, hb⟩; have HB6 := Aside0.mk (below_step HB.out hb); have HO6 := Aside0.mk (Kd.R_below HO.out hb); clear hb)
      go_ret2
      exact ⟨_, rfl, HO6.out, HB6.out⟩


/-! ### spec_ReadBatch: function 37 -/
def spec_ReadBatch.f (k : Nat) (l0 : List Int) : Option ((List (S95)) × Int) := if (l0.length : Int) > 65536 then (some ((([] : List (S95))), 2)) else ((spec_l03Read.f k l0).bind fun bt118 => (if bt118.2 = true then (some (bt118.1, 0)) else (some ((([] : List (S95))), 3))))
theorem spec_ReadBatch.mono : ∀ a0 k, LeO (spec_ReadBatch.f k a0) (spec_ReadBatch.f (k + 1) a0) := by
  intro a0 k
  unfold spec_ReadBatch.f
  repeat' first
      | (with_reducible exact spec_l03Read.mono _ _)
      | (with_reducible exact LeO.refl _)
      | (with_reducible exact LeO.none _)
      | (with_reducible refine LeO.ite ?_ ?_)
      | (with_reducible refine LeO.bind ?_ (fun _ => ?_))
      | exact spec_l03Read.mono _ _
      | exact LeO.none _
      | refine LeO.ite ?_ ?_
      | refine LeO.bind ?_ (fun _ => ?_)
set_option maxHeartbeats 8000000 in
set_option maxRecDepth 100000 in
theorem spec_ReadBatch.calls (k : Nat) (A0 : Option Addr) (c0 : Nat) (l0 : List Int) (r1 : List (S95)) (r2 : Int) (w : World) (hr0 : Kd.C (Kd.int .u8) w A0 l0.length l0) (hc0 : l0.length ≤ c0) (h : spec_ReadBatch.f k l0 = some (r1, r2)) :
    Calls Try.prog 37 #[.slice A0 l0.length c0] w fun e w' => ∃ v0_ : Value, e = .returned (.tuple #[v0_, .int .i64 r2]) ∧ Kd.R k95 95 w' w.heap.size (fun _ => True) v0_ r1 ∧ Below w.heap.size w w' := by
  have HR0 := Aside0.mk hr0
  have HC0 := Aside0.mk hc0
  clear hr0 hc0
  have HB := Aside0.mk (Below.refl w.heap.size w)
  have H : (if (l0.length : Int) > 65536 then (some ((([] : List (S95))), 2)) else ((spec_l03Read.f k l0).bind fun bt118 => (if bt118.2 = true then (some (bt118.1, 0)) else (some ((([] : List (S95))), 3))))) = some (r1, r2) := h
  clear h
  by_cases c2 : (l0.length : Int) > 65536
  · rw [if_pos c2] at H
    have c2b0 : decide (65536 < (l0.length : Int)) = true := decide_eq_true c2
    have c2b1 : decide (65536 < l0.length) = true := decide_eq_true (by omega)
    clear c2
    obtain ⟨y115, hy115⟩ : ∃ y_ : List (S95), y_ = (([] : List (S95))) := ⟨_, rfl⟩
    replace H : (some (y115, 2)) = some (r1, r2) := by first | (rw [hy115]; with_reducible exact H) | (have H2_ := (Option.bind_some _ _).symm.trans H; rw [hy115]; with_reducible exact H2_) | (have H2_ := (Option.bind_some _ _).symm.trans H; with_reducible exact H2_) | with_reducible exact H | (rw [hy115]; exact H) | exact H
    have Ny115 := Aside0.mk hy115
    clear hy115
    simp only [Option.some.injEq, Prod.mk.injEq] at H
    obtain ⟨rfl, rfl⟩ := H
    go_enter Try.func37, Try.ntmps37
    go_wp2_with (first | ((with_reducible refine gate_dst (N := 9) rfl ?_); refine Kd.R_lit k95 _ 95 ?hg (N := 9) ?hd (xs := ([] : List (S95))) (inner := []) (ok := fun _ => True) (okp := fun _ => True) ?hr ?hp (fun _ hk => hk) trivial (Below.refl _ _) (Nat.le_refl _) (by simp) ?_; (case hd => rfl); (case hg => rfl); (case hr => first | (go_simp; done) | (go_simp; rfl)); (case hp => exact (Reps.none _ _)); intro v116 w3 ho4 hb hg_ hnew_; clear hg_ hnew_; (first | rw [← Ny115.out] at ho4 | (simp only [Int.reduceToNat] at ho4; rw [← Ny115.out] at ho4)); have n0_ := Aside0.mk (Kd.R_lower ho4 (below_size (by repeat (first | (with_reducible first | exact HB.out | apply below_alloc | apply pw_below_drewN | apply below_drew1) | exact HB.out)))); have n1_ := Aside0.mk (below_step (by repeat (first | (with_reducible first | exact HB.out | apply below_alloc | apply pw_below_drewN | apply below_drew1) | exact HB.out)) hb); clear HB; have HO117 := n0_; have HB := n1_; clear n0_ n1_; clear hb ho4))
    go_ret2
    exact ⟨_, by first | rfl | (simp [errW_none, errW_some] <;> rfl) | (simp [*, errW_none, errW_some] <;> rfl), by (with_reducible repeat (first | apply Kd.R_alloc | apply Kd.R_drewN | apply Kd.R_drew)); exact HO117.out, by repeat (first | (with_reducible first | exact HB.out | apply below_alloc | apply pw_below_drewN | apply below_drew1) | exact HB.out)⟩
  · rw [if_neg c2] at H
    have c2b0 : decide (65536 < (l0.length : Int)) = false := decide_eq_false c2
    have c2b1 : decide (65536 < l0.length) = false := decide_eq_false (by omega)
    clear c2
    replace H := Option.bind_eq_some_iff.mp H
    obtain ⟨⟨t118, t119⟩, A50, H⟩ := H
    replace H : (if t119 = true then (some (t118, 0)) else (some ((([] : List (S95))), 3))) = some (r1, r2) := H
    have A5 := Aside0.mk A50
    clear A50
    by_cases c6 : t119 = true
    · subst c6
      have H1 : (some (t118, 0)) = some (r1, r2) := by rw [if_pos rfl] at H; exact H
      clear H
      have H := H1
      clear H1
      simp only [Option.some.injEq, Prod.mk.injEq] at H
      obtain ⟨rfl, rfl⟩ := H
      go_enter Try.func37, Try.ntmps37
      go_wp2_with (first | ((with_reducible refine gate_callee (f := 70) rfl ?_); refine goesL_ (some 12) rfl rfl Try.func70 (by kernel_rfl) rfl #[.slice A0 l0.length c0] rfl (by (try simp only [List.map_toArray, List.map_cons, List.map_nil]); first | done | rfl | (simp only [List.length_drop, List.length_take]; rfl)) ?_; (with_reducible refine (spec_l03Read.calls k _ _ l0 t118 true _ ?side1 ?side2 A5.out).mono ?_); (case side1 => repeat (first | exact HR0.out | (with_reducible refine Kd.C_alloc ?_ _) | (with_reducible refine Kd.C_drewN ?_ _) | (with_reducible refine Kd.C_drew ?_))); (case side2 => exact HC0.out); rintro e w7 ⟨v120, rfl, ho0, hb⟩; refine ⟨_, rfl, ?_⟩; have n0_ := Aside0.mk (Kd.R_lower ho0 (below_size (by repeat (first | (with_reducible first | exact HB.out | apply below_alloc | apply pw_below_drewN | apply below_drew1) | exact HB.out)))); have n1_ := Aside0.mk (below_step (by repeat (first | (with_reducible first | exact HB.out | apply below_alloc | apply pw_below_drewN | apply below_drew1) | exact HB.out)) hb); clear HB; have HO121 := n0_; have HB := n1_; clear n0_ n1_; (try clear hb); (try clear hb2); (try clear hk); (try clear hi); (try clear ho0)))
      go_ret2
      exact ⟨_, by first | rfl | (simp [errW_none, errW_some] <;> rfl) | (simp [*, errW_none, errW_some] <;> rfl), by (with_reducible repeat (first | apply Kd.R_alloc | apply Kd.R_drewN | apply Kd.R_drew)); exact HO121.out, by repeat (first | (with_reducible first | exact HB.out | apply below_alloc | apply pw_below_drewN | apply below_drew1) | exact HB.out)⟩
    · replace c6 := Bool.eq_false_iff.mpr c6
      subst c6
      have H1 : (some ((([] : List (S95))), 3)) = some (r1, r2) := by rw [if_neg (show ¬ (false = true) by decide)] at H; exact H
      clear H
      have H := H1
      clear H1
      obtain ⟨y122, hy122⟩ : ∃ y_ : List (S95), y_ = (([] : List (S95))) := ⟨_, rfl⟩
      replace H : (some (y122, 3)) = some (r1, r2) := by first | (rw [hy122]; with_reducible exact H) | (have H2_ := (Option.bind_some _ _).symm.trans H; rw [hy122]; with_reducible exact H2_) | (have H2_ := (Option.bind_some _ _).symm.trans H; with_reducible exact H2_) | with_reducible exact H | (rw [hy122]; exact H) | exact H
      have Ny122 := Aside0.mk hy122
      clear hy122
      simp only [Option.some.injEq, Prod.mk.injEq] at H
      obtain ⟨rfl, rfl⟩ := H
      go_enter Try.func37, Try.ntmps37
      go_wp2_with (first | ((with_reducible refine gate_callee (f := 70) rfl ?_); refine goesL_ (some 12) rfl rfl Try.func70 (by kernel_rfl) rfl #[.slice A0 l0.length c0] rfl (by (try simp only [List.map_toArray, List.map_cons, List.map_nil]); first | done | rfl | (simp only [List.length_drop, List.length_take]; rfl)) ?_; (with_reducible refine (spec_l03Read.calls k _ _ l0 t118 false _ ?side1 ?side2 A5.out).mono ?_); (case side1 => repeat (first | exact HR0.out | (with_reducible refine Kd.C_alloc ?_ _) | (with_reducible refine Kd.C_drewN ?_ _) | (with_reducible refine Kd.C_drew ?_))); (case side2 => exact HC0.out); rintro e w8 ⟨v120, rfl, ho0, hb⟩; refine ⟨_, rfl, ?_⟩; have n0_ := Aside0.mk (Kd.R_lower ho0 (below_size (by repeat (first | (with_reducible first | exact HB.out | apply below_alloc | apply pw_below_drewN | apply below_drew1) | exact HB.out)))); have n1_ := Aside0.mk (below_step (by repeat (first | (with_reducible first | exact HB.out | apply below_alloc | apply pw_below_drewN | apply below_drew1) | exact HB.out)) hb); clear HB; have HO121 := n0_; have HB := n1_; clear n0_ n1_; (try clear hb); (try clear hb2); (try clear hk); (try clear hi); (try clear ho0)) | ((with_reducible refine gate_dst (N := 17) rfl ?_); refine Kd.R_lit k95 _ 95 ?hg (N := 17) ?hd (xs := ([] : List (S95))) (inner := []) (ok := fun _ => True) (okp := fun _ => True) ?hr ?hp (fun _ hk => hk) trivial (Below.refl _ _) (Nat.le_refl _) (by simp) ?_; (case hd => rfl); (case hg => rfl); (case hr => first | (go_simp; done) | (go_simp; rfl)); (case hp => exact (Reps.none _ _)); intro v123 w9 ho10 hb hg_ hnew_; clear hg_ hnew_; (first | rw [← Ny122.out] at ho10 | (simp only [Int.reduceToNat] at ho10; rw [← Ny122.out] at ho10)); have n0_ := Aside0.mk (Kd.R_elder' (by (with_reducible repeat (first | apply Kd.R_alloc | apply Kd.R_drewN | apply Kd.R_drew)); exact HO121.out) (Kd.R_base ho10) hb); have n1_ := Aside0.mk (Kd.R_lower (Kd.R_new' ho10 (Kd.R_lt (by (with_reducible repeat (first | apply Kd.R_alloc | apply Kd.R_drewN | apply Kd.R_drew)); exact HO121.out))) (below_size (by repeat (first | (with_reducible first | exact HB.out | apply below_alloc | apply pw_below_drewN | apply below_drew1) | exact HB.out)))); have n2_ := Aside0.mk (below_step (by repeat (first | (with_reducible first | exact HB.out | apply below_alloc | apply pw_below_drewN | apply below_drew1) | exact HB.out)) hb); clear HO121; clear HB; have HO121 := n0_; have HO124 := n1_; have HB := n2_; clear n0_ n1_ n2_; clear hb ho10))
      go_ret2
      exact ⟨_, by first | rfl | (simp [errW_none, errW_some] <;> rfl) | (simp [*, errW_none, errW_some] <;> rfl), by (with_reducible repeat (first | apply Kd.R_alloc | apply Kd.R_drewN | apply Kd.R_drew)); exact Kd.R_mono HO124.out (fun _ hk => trivial), by repeat (first | (with_reducible first | exact HB.out | apply below_alloc | apply pw_below_drewN | apply below_drew1) | exact HB.out)⟩

/-! ### impl_isShort_byte: function 67 -/
def impl_isShort_byte.f (l0 : List Int) : Option (Bool) := some (decide ((l0.length : Int) ≤ 65536))
set_option maxHeartbeats 8000000 in
set_option maxRecDepth 100000 in
theorem impl_isShort_byte.calls (A0 : Option Addr) (c0 : Nat) (l0 : List Int) (r : Bool) (w : World) (hr0 : Kd.C (Kd.int .u8) w A0 l0.length l0) (hc0 : l0.length ≤ c0) (h : impl_isShort_byte.f l0 = some r) :
    Calls Try.prog 67 #[.slice A0 l0.length c0] w fun e w' => e = .returned (.bool r) ∧ Drawn0 w w' := by
  have HR0 := Aside0.mk hr0
  have HC0 := Aside0.mk hc0
  clear hr0 hc0
  have H : (some (decide ((l0.length : Int) ≤ 65536))) = some r := h
  clear h
  obtain rfl := Option.some.inj H
  go_enter Try.func67, Try.ntmps67
  go_wp2
  go_ret
  exact ⟨by first | rfl | (simp; done) | (simp [*]; done), by repeat (first | exact Drawn0.refl _ | apply Drawn0.step)⟩

end Go.Proofs.Ytjckchadcpaijaa.XB
