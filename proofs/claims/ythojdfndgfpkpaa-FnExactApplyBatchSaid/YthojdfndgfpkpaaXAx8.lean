-- Written by a program of this session (xp.py over the kit's printer, with functions proved by hand). Lean checks it.
import Derived.Test.YthojdfndgfpkpaaXAx0
import Derived.Test.YthojdfndgfpkpaaXAx4
import Derived.Test.YthojdfndgfpkpaaXAx7
namespace Go.Proofs.Ythojdfndgfpkpaa.XA
open Go.Proofs.Ythojdfndgfpkpaa.Open Go.Proofs.Ythojdfndgfpkpaa.OpenWin Go.Proofs.Ythojdfndgfpkpaa.OpenRow Go.Proofs.Ythojdfndgfpkpaa.OpenFlat Go.Proofs.Ythojdfndgfpkpaa.OpenOrd
open Go.RowKit Go.Proofs.YthojdfndgfpkpaaW.PrintWords Go.Proofs.YthojdfndgfpkpaaW.PrintLast Go.Proofs.YthojdfndgfpkpaaW.PrintMore
attribute [local go_sem] max2_int min2_int max_two min_two max_three min_three max_four min_four   -- for this text's walks alone
set_option linter.unusedVariables false
set_option linter.unusedSimpArgs false

/-! ### impl_isStore: function 52 -/
theorem impl_isStore.key (s : ByteArray) : impl_isKey.f s = some (decide (0 < s.size) && decide (s.size ≤ 60)) := by
  unfold impl_isKey.f impl_within.f
  by_cases h1 : 0 < s.size
  · by_cases h2 : s.size ≤ 60
    · simp [h1, h2, show (1 : Int) ≤ (s.size : Int) by omega, show (s.size : Int) ≤ 60 by omega]
    · simp [h1, h2, show (1 : Int) ≤ (s.size : Int) by omega, show ¬ (s.size : Int) ≤ 60 by omega]
  · simp [h1, show ¬ (1 : Int) ≤ (s.size : Int) by omega]
def impl_isStore.f (l0 : List (S74)) : Option (Bool) := spec_l03Store.f l0
set_option maxHeartbeats 8000000 in
set_option maxRecDepth 100000 in
theorem impl_isStore.calls (A0 : Option Addr) (c0 : Nat) (l0 : List (S74)) (r : Bool) (w : World) (hr0 : Kd.C k74 w A0 l0.length l0) (hc0 : l0.length ≤ c0) (h : impl_isStore.f l0 = some r) :
    Calls Try.prog 52 #[.slice A0 l0.length c0] w fun e w' => e = .returned (.bool r) ∧ Below w.heap.size w w' := by
  have hu := Try.underlying74
  have hu2 := Try.underlying88
  unfold impl_isStore.f spec_l03Store.f at h
  have hs : l0.length ≤ 4096 := Decidable.byContradiction fun hs => by rw [if_neg hs] at h; cases h
  rw [if_pos hs] at h
  have hr := Option.some.inj h
  clear h
  have HR0 := Aside0.mk hr0
  have HB := Aside0.mk (Below.refl w.heap.size w)
  have hlz : (l0.length : Int) ≤ 4096 := by omega
  have qg : ∀ (a b : ByteArray) (W : World), (binOp .geq 9 (.string a) (.string b)).run Try.prog W = .ok (.bool (!Op.bytesLess a.toList b.toList)) W := fun a b W => by simp [binOp, Op.stringOp]
  clear hr0
  have HRQ := Aside0.mk hr
  clear hr
  go_enter Try.func52, Try.ntmps52
  go_wp2
  go_loopg [3, 4, 7] l0.length (fun gg _ _ s7 wr => ∃ kk : Nat, kk ≤ l0.length ∧ l0.length - kk ≤ gg ∧ s7 = .int .i64 kk ∧ Aside0 (Below w.heap.size w wr) ∧ Aside0 (∀ j, j < kk → spec_l03Store.at_ l0 j = true))
  case atStart => exact ⟨0, Nat.zero_le _, by omega, rfl, HB, ⟨fun j hj => absurd hj (Nat.not_lt_zero _)⟩⟩
  case round =>
    obtain ⟨kk, hkk, hg, rfl, HB, HJ⟩ := hrel
    by_cases hlt : kk < l0.length
    · have hltz : (kk : Int) < (l0.length : Int) := by omega
      have HRr := Aside0.mk (Kd.C_below HR0.out HB.out)
      obtain ⟨ad, e1, hx0, hx1⟩ := at_T74 HRr.out (kk : Int) (by omega) (by omega)
      cases e1
      rw [show rd_T74 l0 (kk : Int) = l0.getD kk z74 by simp [rd_T74]] at hx0 hx1
      simp only [Int.toNat_natCast] at hx0 hx1
      have HX := Aside0.mk (Eq.refl (spec_l03Store.at_ l0 kk))
      by_cases hkey : (decide (0 < (l0.getD kk z74).f0.size) && decide ((l0.getD kk z74).f0.size ≤ 60)) = true
      · by_cases hval : (l0.getD kk z74).f1.size ≤ 400
        · have hpk : spec_l03Store.pairB (l0.getD kk z74) = true := by
            simp only [Bool.and_eq_true, decide_eq_true_eq] at hkey
            simp only [spec_l03Store.pairB, Bool.and_eq_true, decide_eq_true_eq]
            exact ⟨hkey.1, hkey.2, hval⟩
          rcases Nat.eq_zero_or_pos kk with rfl | hposn
          · have hat : spec_l03Store.at_ l0 0 = true := by unfold spec_l03Store.at_; rw [hpk]; simp
            have HJ2 : Aside0 (∀ j, j < 0 + 1 → spec_l03Store.at_ l0 j = true) := ⟨fun j hj => by have h0 : j = 0 := (by omega); subst h0; exact hat⟩
            have ha0 : ad.add (0 * 2) = ad := by rw [Nat.zero_mul]; unfold Addr.add; simp
            rw [ha0] at hx0 hx1
            have HKB := Aside0.mk hkey
            have HVB := Aside0.mk hval
            clear hat hkey hval hpk HX
            have HC := Aside0.mk (fun W => impl_isKey.calls _ _ W (impl_isStore.key (l0.getD 0 z74).f0))
            generalize (l0.getD 0 z74).f0 = k0 at *
            generalize (l0.getD 0 z74).f1 = k1 at *
            have hkb : (decide (0 < k0.size) && decide (k0.size ≤ 60)) = true := HKB.out
            rw [hkb] at HC
            clear hkb
            have hvz : ¬ ((k1.size : Int) > 400) := by have := HVB.out; omega
            have hvd : decide ((400 : Int) < (k1.size : Int)) = false := decide_eq_false (by have := HVB.out; omega)
            have hgt0 : ¬ ((0 : Int) > 0) := by decide

            go_wp2_with fail
            obtain ⟨W1, hW1⟩ : ∃ W_, W_ = wr.alloc (.cells #[.string k0, .string k1] 74) := ⟨_, rfl⟩
            obtain ⟨gb, hgb⟩ : ∃ g_, g_ = wr.heap.size := ⟨_, rfl⟩
            rw [← hW1, ← hgb]
            have hbox : W1.heap[gb]? = some (.cells #[.string k0, .string k1] 74 (0, 0)) := by rw [hW1, hgb]; exact blk_new _ _
            have HB1 := Aside0.mk (show Below w.heap.size w W1 by rw [hW1]; exact below_alloc HB.out _)
            have y0 : W1.cell? ⟨gb, 0, none⟩ = some (.string k0) := (blk_cell hbox 0).trans rfl
            have y1 : W1.cell? ⟨gb, 1, none⟩ = some (.string k1) := (blk_cell hbox 1).trans rfl
            clear hbox hW1 hgb hx0 hx1
            refine start_ (n := 25) (S := fun w' => w'.cell? ⟨gb, 0, none⟩ = some (.string k0) ∧ w'.cell? ⟨gb, 1, none⟩ = some (.string k1)) (ds := []) #[false, false, false, false, false, false, false, false, false, false, false, false, false, false, false, false, false, false, false, false, false, false, false, false, false] (by kernel_rfl) rfl rfl ⟨y0, y1⟩ (fun hHeld => ?_)
            refine pure_ (i := 0) (N := some 12) (v := ?_) (a' := ?_) #[true, false, false, false, false, false, false, false, false, false, false, false, false, false, false, false, false, false, false, false, false, false, false, false, false] rfl rfl (by kernel_rfl) (fun _ _ _ h => h) (Or.inl ⟨by rfl, ?_⟩) ?_ ?_
            rotate_left
            · intro w'; go_simp; with_reducible rfl
            rotate_left
            · simp only [Act.put, OpenRow.s1, OpenRow.s2, OpenRow.s3, i64_w, i32_w]; rfl
            refine take_ (i := 1) (N := some 13) (v := ?_) (a' := ?_) #[true, true, false, false, false, false, false, false, false, false, false, false, false, false, false, false, false, false, false, false, false, false, false, false, false] rfl rfl (by kernel_rfl) (fun _ _ _ h => h) (Or.inl ⟨by rfl, ?_⟩) hHeld ?_ ?_
            rotate_left
            · rintro w' ⟨s0, s1⟩
              go_simp
              with_reducible rfl
            rotate_left
            · simp only [Act.put, OpenRow.s1, OpenRow.s2, OpenRow.s3, i64_w, i32_w]; rfl
            refine one_ (i := 2) (N := some 14) #[true, true, true, false, false, false, false, false, false, false, false, false, false, false, false, false, false, false, false, false, false, false, false, false, false] rfl rfl (by kernel_rfl) (by decide) (fun K hK => ?_)
            refine goes_ Try.func88 (by kernel_rfl) rfl #[.string k0] (by rfl) rfl rfl (by simp only [List.map_toArray, List.map_cons, List.map_nil] <;> rfl) ?_
            with_reducible refine (HC.out _).mono ?_
            rintro e w3 ⟨rfl, hd_⟩
            refine ⟨_, rfl, ?_⟩
            have hb_ := hd_.below
            have HB3 := Aside0.mk (below_step (below_drew1 HB1.out) hb_)
            refine hK.out _ _ ⟨(hb_.cell (World.block_lt_of_cell? _ _ (hHeld.1))).trans (hHeld.1), (hb_.cell (World.block_lt_of_cell? _ _ (hHeld.2))).trans (hHeld.2)⟩ (fun hHeld => ?_)
            clear hK K
            refine norm_ (a' := ?_) ?_ ?_
            rotate_left
            · show Act.put _ (some 14) _ = _
              simp only [Act.put, OpenRow.s1, OpenRow.s2, OpenRow.s3, i64_w, i32_w]
              rfl
            refine pure_ (i := 3) (N := some 15) (v := ?_) (a' := ?_) #[true, true, true, true, false, false, false, false, false, false, false, false, false, false, false, false, false, false, false, false, false, false, false, false, false] rfl rfl (by kernel_rfl) (fun _ _ _ h => h) (Or.inl ⟨by rfl, ?_⟩) ?_ ?_
            rotate_left
            · intro w'; go_simp; with_reducible rfl
            rotate_left
            · simp only [Act.put, OpenRow.s1, OpenRow.s2, OpenRow.s3, i64_w, i32_w]; rfl
            refine pure_ (i := 4) (N := some 16) (v := ?_) (a' := ?_) #[true, true, true, true, true, false, false, false, false, false, false, false, false, false, false, false, false, false, false, false, false, false, false, false, false] rfl rfl (by kernel_rfl) (fun _ _ _ h => h) (Or.inl ⟨by rfl, ?_⟩) ?_ ?_
            rotate_left
            · intro w'; go_simp; with_reducible rfl
            rotate_left
            · simp only [Act.put, OpenRow.s1, OpenRow.s2, OpenRow.s3, i64_w, i32_w]; rfl
            refine pure_ (i := 5) (N := some 17) (v := ?_) (a' := ?_) #[true, true, true, true, true, true, false, false, false, false, false, false, false, false, false, false, false, false, false, false, false, false, false, false, false] rfl rfl (by kernel_rfl) (fun _ _ _ h => h) (Or.inl ⟨by rfl, ?_⟩) ?_ ?_
            rotate_left
            · intro w'; go_simp; with_reducible rfl
            rotate_left
            · simp only [Act.put, OpenRow.s1, OpenRow.s2, OpenRow.s3, i64_w, i32_w]; rfl
            refine take_ (i := 6) (N := some 18) (v := ?_) (a' := ?_) #[true, true, true, true, true, true, true, false, false, false, false, false, false, false, false, false, false, false, false, false, false, false, false, false, false] rfl rfl (by kernel_rfl) (fun _ _ _ h => h) (Or.inl ⟨by rfl, ?_⟩) hHeld ?_ ?_
            rotate_left
            · rintro w' ⟨s0, s1⟩
              go_simp
              with_reducible rfl
            rotate_left
            · simp only [Act.put, OpenRow.s1, OpenRow.s2, OpenRow.s3, i64_w, i32_w]; rfl
            refine pure_ (i := 7) (N := some 19) (v := ?_) (a' := ?_) #[true, true, true, true, true, true, true, true, false, false, false, false, false, false, false, false, false, false, false, false, false, false, false, false, false] rfl rfl (by kernel_rfl) (fun _ _ _ h => h) (Or.inl ⟨by rfl, ?_⟩) ?_ ?_
            rotate_left
            · intro w'; go_simp; with_reducible rfl
            rotate_left
            · simp only [Act.put, OpenRow.s1, OpenRow.s2, OpenRow.s3, i64_w, i32_w]; rfl
            refine pure_ (i := 8) (N := some 20) (v := ?_) (a' := ?_) #[true, true, true, true, true, true, true, true, true, false, false, false, false, false, false, false, false, false, false, false, false, false, false, false, false] rfl rfl (by kernel_rfl) (fun _ _ _ h => h) (Or.inl ⟨by rfl, ?_⟩) ?_ ?_
            rotate_left
            · intro w'; go_simp; with_reducible rfl
            rotate_left
            · simp only [Act.put, OpenRow.s1, OpenRow.s2, OpenRow.s3, i64_w, i32_w]; rfl
            refine pure_ (i := 9) (N := some 21) (v := ?_) (a' := ?_) #[true, true, true, true, true, true, true, true, true, true, false, false, false, false, false, false, false, false, false, false, false, false, false, false, false] rfl rfl (by kernel_rfl) (fun _ _ _ h => h) (Or.inl ⟨by rfl, ?_⟩) ?_ ?_
            rotate_left
            · intro w'; go_simp; with_reducible rfl
            rotate_left
            · simp only [Act.put, OpenRow.s1, OpenRow.s2, OpenRow.s3, i64_w, i32_w]; rfl
            refine pure_ (i := 10) (N := some 22) (v := ?_) (a' := ?_) #[true, true, true, true, true, true, true, true, true, true, true, false, false, false, false, false, false, false, false, false, false, false, false, false, false] rfl rfl (by kernel_rfl) (fun _ _ _ h => h) (Or.inl ⟨by rfl, ?_⟩) ?_ ?_
            rotate_left
            · intro w'; go_simp; with_reducible rfl
            rotate_left
            · simp only [Act.put, OpenRow.s1, OpenRow.s2, OpenRow.s3, i64_w, i32_w]; rfl
            refine pure_ (i := 11) (N := some 23) (v := ?_) (a' := ?_) #[true, true, true, true, true, true, true, true, true, true, true, true, false, false, false, false, false, false, false, false, false, false, false, false, false] rfl rfl (by kernel_rfl) (fun _ _ _ h => h) (Or.inl ⟨by rfl, ?_⟩) ?_ ?_
            rotate_left
            · intro w'; go_simp; with_reducible rfl
            rotate_left
            · simp only [Act.put, OpenRow.s1, OpenRow.s2, OpenRow.s3, i64_w, i32_w]; rfl
            refine pure_ (i := 12) (N := some 24) (v := ?_) (a' := ?_) #[true, true, true, true, true, true, true, true, true, true, true, true, true, false, false, false, false, false, false, false, false, false, false, false, false] rfl rfl (by kernel_rfl) (fun _ _ _ h => h) (Or.inl ⟨by rfl, ?_⟩) ?_ ?_
            rotate_left
            · intro w'; go_simp; with_reducible rfl
            rotate_left
            · simp only [Act.put, OpenRow.s1, OpenRow.s2, OpenRow.s3, i64_w, i32_w]; rfl
            refine pure_ (i := 13) (N := some 25) (v := ?_) (a' := ?_) #[true, true, true, true, true, true, true, true, true, true, true, true, true, true, false, false, false, false, false, false, false, false, false, false, false] rfl rfl (by kernel_rfl) (fun _ _ _ h => h) (Or.inl ⟨by rfl, ?_⟩) ?_ ?_
            rotate_left
            · intro w'; go_simp; with_reducible rfl
            rotate_left
            · simp only [Act.put, OpenRow.s1, OpenRow.s2, OpenRow.s3, i64_w, i32_w]; rfl
            refine pure_ (i := 14) (N := some 26) (v := undef) (a' := ?_) #[true, true, true, true, true, true, true, true, true, true, true, true, true, true, true, false, false, false, false, false, false, false, false, false, false] rfl rfl (by kernel_rfl) (fun _ _ _ h => h) (Or.inr ⟨by rfl, rfl⟩) ?_ ?_
            rotate_left
            · simp only [Act.put, OpenRow.s1, OpenRow.s2, OpenRow.s3, i64_w, i32_w]; rfl
            refine pure_ (i := 15) (N := some 27) (v := undef) (a' := ?_) #[true, true, true, true, true, true, true, true, true, true, true, true, true, true, true, true, false, false, false, false, false, false, false, false, false] rfl rfl (by kernel_rfl) (fun _ _ _ h => h) (Or.inr ⟨by rfl, rfl⟩) ?_ ?_
            rotate_left
            · simp only [Act.put, OpenRow.s1, OpenRow.s2, OpenRow.s3, i64_w, i32_w]; rfl
            refine pure_ (i := 16) (N := some 28) (v := undef) (a' := ?_) #[true, true, true, true, true, true, true, true, true, true, true, true, true, true, true, true, true, false, false, false, false, false, false, false, false] rfl rfl (by kernel_rfl) (fun _ _ _ h => h) (Or.inr ⟨by rfl, rfl⟩) ?_ ?_
            rotate_left
            · simp only [Act.put, OpenRow.s1, OpenRow.s2, OpenRow.s3, i64_w, i32_w]; rfl
            refine pure_ (i := 17) (N := some 29) (v := undef) (a' := ?_) #[true, true, true, true, true, true, true, true, true, true, true, true, true, true, true, true, true, true, false, false, false, false, false, false, false] rfl rfl (by kernel_rfl) (fun _ _ _ h => h) (Or.inr ⟨by rfl, rfl⟩) ?_ ?_
            rotate_left
            · simp only [Act.put, OpenRow.s1, OpenRow.s2, OpenRow.s3, i64_w, i32_w]; rfl
            refine pure_ (i := 18) (N := some 30) (v := undef) (a' := ?_) #[true, true, true, true, true, true, true, true, true, true, true, true, true, true, true, true, true, true, true, false, false, false, false, false, false] rfl rfl (by kernel_rfl) (fun _ _ _ h => h) (Or.inr ⟨by rfl, rfl⟩) ?_ ?_
            rotate_left
            · simp only [Act.put, OpenRow.s1, OpenRow.s2, OpenRow.s3, i64_w, i32_w]; rfl
            refine pure_ (i := 19) (N := some 31) (v := undef) (a' := ?_) #[true, true, true, true, true, true, true, true, true, true, true, true, true, true, true, true, true, true, true, true, false, false, false, false, false] rfl rfl (by kernel_rfl) (fun _ _ _ h => h) (Or.inr ⟨by rfl, rfl⟩) ?_ ?_
            rotate_left
            · simp only [Act.put, OpenRow.s1, OpenRow.s2, OpenRow.s3, i64_w, i32_w]; rfl
            refine pure_ (i := 20) (N := some 32) (v := undef) (a' := ?_) #[true, true, true, true, true, true, true, true, true, true, true, true, true, true, true, true, true, true, true, true, true, false, false, false, false] rfl rfl (by kernel_rfl) (fun _ _ _ h => h) (Or.inr ⟨by rfl, rfl⟩) ?_ ?_
            rotate_left
            · simp only [Act.put, OpenRow.s1, OpenRow.s2, OpenRow.s3, i64_w, i32_w]; rfl
            refine pure_ (i := 21) (N := some 33) (v := undef) (a' := ?_) #[true, true, true, true, true, true, true, true, true, true, true, true, true, true, true, true, true, true, true, true, true, true, false, false, false] rfl rfl (by kernel_rfl) (fun _ _ _ h => h) (Or.inr ⟨by rfl, rfl⟩) ?_ ?_
            rotate_left
            · simp only [Act.put, OpenRow.s1, OpenRow.s2, OpenRow.s3, i64_w, i32_w]; rfl
            refine pure_ (i := 22) (N := some 34) (v := undef) (a' := ?_) #[true, true, true, true, true, true, true, true, true, true, true, true, true, true, true, true, true, true, true, true, true, true, true, false, false] rfl rfl (by kernel_rfl) (fun _ _ _ h => h) (Or.inr ⟨by rfl, rfl⟩) ?_ ?_
            rotate_left
            · simp only [Act.put, OpenRow.s1, OpenRow.s2, OpenRow.s3, i64_w, i32_w]; rfl
            refine pure_ (i := 23) (N := some 35) (v := ?_) (a' := ?_) #[true, true, true, true, true, true, true, true, true, true, true, true, true, true, true, true, true, true, true, true, true, true, true, true, false] rfl rfl (by kernel_rfl) (fun _ _ _ h => h) (Or.inl ⟨by rfl, ?_⟩) ?_ ?_
            rotate_left
            · intro w'; go_simp; with_reducible rfl
            rotate_left
            · simp only [Act.put, OpenRow.s1, OpenRow.s2, OpenRow.s3, i64_w, i32_w]; rfl
            refine pure_ (i := 24) (N := some 36) (v := ?_) (a' := ?_) #[true, true, true, true, true, true, true, true, true, true, true, true, true, true, true, true, true, true, true, true, true, true, true, true, true] rfl rfl (by kernel_rfl) (fun _ _ _ h => h) (Or.inl ⟨by rfl, ?_⟩) ?_ ?_
            rotate_left
            · intro w'; go_simp; with_reducible rfl
            rotate_left
            · simp only [Act.put, OpenRow.s1, OpenRow.s2, OpenRow.s3, i64_w, i32_w]; rfl
            refine done_ (by kernel_rfl) ?_

            go_wp2
            go_roundg (l0.length - 1)
            case measure => omega
            case rel => exact ⟨1, by omega, by omega, by go_num, HB3, HJ2⟩
          · obtain ⟨m, hkm⟩ : ∃ m, m + 1 = kk := ⟨kk - 1, by omega⟩
            obtain ⟨ad', e1, hy0, _⟩ := at_T74 HRr.out (m : Int) (by omega) (by omega)
            cases e1
            rw [show rd_T74 l0 (m : Int) = l0.getD m z74 by simp [rd_T74]] at hy0
            simp only [Int.toNat_natCast] at hy0
            have hpos : (0 : Int) < (kk : Int) := by omega
            have hgt : ((kk : Int) > 0) = True := eq_true (by omega)
            have hml : (m : Int) < (l0.length : Int) := by omega
            have EM := Aside0.mk (show (kk : Int) - 1 = m by omega)
            have hwm : IntKind.i64.wrap (m : Int) = m := by rw [IntKind.wrap_i64]; omega
            cases hbl : Op.bytesLess (l0.getD m z74).f0.toList (l0.getD kk z74).f0.toList with
            | true =>
              have hat : spec_l03Store.at_ l0 kk = true := by unfold spec_l03Store.at_; rw [hpk, show kk - 1 = m by omega, hbl]; simp
              have HJ2 : Aside0 (∀ j, j < kk + 1 → spec_l03Store.at_ l0 j = true) := ⟨fun j hj => by
                by_cases e : j = kk
                · rw [e]; exact hat
                · exact HJ.out j (by omega)⟩
              have HKB := Aside0.mk hkey
              have HVB := Aside0.mk hval
              clear hat hkm hkey hval hpk HX
              have HC := Aside0.mk (fun W => impl_isKey.calls _ _ W (impl_isStore.key (l0.getD kk z74).f0))
              generalize (l0.getD kk z74).f0 = k0 at *
              generalize (l0.getD kk z74).f1 = k1 at *
              have hkb : (decide (0 < k0.size) && decide (k0.size ≤ 60)) = true := HKB.out
              rw [hkb] at HC
              clear hkb
              have hvz : ¬ ((k1.size : Int) > 400) := by have := HVB.out; omega
              have hvd : decide ((400 : Int) < (k1.size : Int)) = false := decide_eq_false (by have := HVB.out; omega)
              generalize (l0.getD m z74).f0 = m0 at *
              have hy00 := hy0
              clear hy0
              have em := EM.out
              have hi0 : (0 : Int) ≤ (kk : Int) := by omega
              have hi1 : (0 : Int) ≤ (m : Int) := by omega

              go_wp2_with fail
              obtain ⟨W1, hW1⟩ : ∃ W_, W_ = wr.alloc (.cells #[.string k0, .string k1] 74) := ⟨_, rfl⟩
              obtain ⟨gb, hgb⟩ : ∃ g_, g_ = wr.heap.size := ⟨_, rfl⟩
              rw [← hW1, ← hgb]
              have hbox : W1.heap[gb]? = some (.cells #[.string k0, .string k1] 74 (0, 0)) := by rw [hW1, hgb]; exact blk_new _ _
              have HB1 := Aside0.mk (show Below w.heap.size w W1 by rw [hW1]; exact below_alloc HB.out _)
              have y0 : W1.cell? ⟨gb, 0, none⟩ = some (.string k0) := (blk_cell hbox 0).trans rfl
              have y1 : W1.cell? ⟨gb, 1, none⟩ = some (.string k1) := (blk_cell hbox 1).trans rfl
              have hy0 : W1.cell? (ad.add (m * 2)) = some (.string m0) := by rw [hW1]; exact Lib.cell?_alloc_some _ hy00
              clear hy00
              clear hbox hW1 hgb hx0 hx1
              refine start_ (n := 25) (S := fun w' => w'.cell? ⟨gb, 0, none⟩ = some (.string k0) ∧ w'.cell? ⟨gb, 1, none⟩ = some (.string k1) ∧ w'.cell? (ad.add (m * 2)) = some (.string m0)) (ds := []) #[false, false, false, false, false, false, false, false, false, false, false, false, false, false, false, false, false, false, false, false, false, false, false, false, false] (by kernel_rfl) rfl rfl ⟨y0, y1, hy0⟩ (fun hHeld => ?_)
              refine pure_ (i := 0) (N := some 12) (v := ?_) (a' := ?_) #[true, false, false, false, false, false, false, false, false, false, false, false, false, false, false, false, false, false, false, false, false, false, false, false, false] rfl rfl (by kernel_rfl) (fun _ _ _ h => h) (Or.inl ⟨by rfl, ?_⟩) ?_ ?_
              rotate_left
              · intro w'; go_simp; with_reducible rfl
              rotate_left
              · simp only [Act.put, OpenRow.s1, OpenRow.s2, OpenRow.s3, i64_w, i32_w]; rfl
              refine take_ (i := 1) (N := some 13) (v := ?_) (a' := ?_) #[true, true, false, false, false, false, false, false, false, false, false, false, false, false, false, false, false, false, false, false, false, false, false, false, false] rfl rfl (by kernel_rfl) (fun _ _ _ h => h) (Or.inl ⟨by rfl, ?_⟩) hHeld ?_ ?_
              rotate_left
              · rintro w' ⟨s0, s1, s2⟩
                go_simp
                with_reducible rfl
              rotate_left
              · simp only [Act.put, OpenRow.s1, OpenRow.s2, OpenRow.s3, i64_w, i32_w]; rfl
              refine one_ (i := 2) (N := some 14) #[true, true, true, false, false, false, false, false, false, false, false, false, false, false, false, false, false, false, false, false, false, false, false, false, false] rfl rfl (by kernel_rfl) (by decide) (fun K hK => ?_)
              refine goes_ Try.func88 (by kernel_rfl) rfl #[.string k0] (by rfl) rfl rfl (by simp only [List.map_toArray, List.map_cons, List.map_nil] <;> rfl) ?_
              with_reducible refine (HC.out _).mono ?_
              rintro e w3 ⟨rfl, hd_⟩
              refine ⟨_, rfl, ?_⟩
              have hb_ := hd_.below
              have HB3 := Aside0.mk (below_step (below_drew1 HB1.out) hb_)
              refine hK.out _ _ ⟨(hb_.cell (World.block_lt_of_cell? _ _ (hHeld.1))).trans (hHeld.1), (hb_.cell (World.block_lt_of_cell? _ _ (hHeld.2.1))).trans (hHeld.2.1), (hb_.cell (World.block_lt_of_cell? _ _ (hHeld.2.2))).trans (hHeld.2.2)⟩ (fun hHeld => ?_)
              clear hK K
              refine norm_ (a' := ?_) ?_ ?_
              rotate_left
              · show Act.put _ (some 14) _ = _
                simp only [Act.put, OpenRow.s1, OpenRow.s2, OpenRow.s3, i64_w, i32_w]
                rfl
              refine pure_ (i := 3) (N := some 15) (v := ?_) (a' := ?_) #[true, true, true, true, false, false, false, false, false, false, false, false, false, false, false, false, false, false, false, false, false, false, false, false, false] rfl rfl (by kernel_rfl) (fun _ _ _ h => h) (Or.inl ⟨by rfl, ?_⟩) ?_ ?_
              rotate_left
              · intro w'; go_simp; with_reducible rfl
              rotate_left
              · simp only [Act.put, OpenRow.s1, OpenRow.s2, OpenRow.s3, i64_w, i32_w]; rfl
              refine pure_ (i := 4) (N := some 16) (v := ?_) (a' := ?_) #[true, true, true, true, true, false, false, false, false, false, false, false, false, false, false, false, false, false, false, false, false, false, false, false, false] rfl rfl (by kernel_rfl) (fun _ _ _ h => h) (Or.inl ⟨by rfl, ?_⟩) ?_ ?_
              rotate_left
              · intro w'; go_simp; with_reducible rfl
              rotate_left
              · simp only [Act.put, OpenRow.s1, OpenRow.s2, OpenRow.s3, i64_w, i32_w]; rfl
              refine pure_ (i := 5) (N := some 17) (v := ?_) (a' := ?_) #[true, true, true, true, true, true, false, false, false, false, false, false, false, false, false, false, false, false, false, false, false, false, false, false, false] rfl rfl (by kernel_rfl) (fun _ _ _ h => h) (Or.inl ⟨by rfl, ?_⟩) ?_ ?_
              rotate_left
              · intro w'; go_simp; with_reducible rfl
              rotate_left
              · simp only [Act.put, OpenRow.s1, OpenRow.s2, OpenRow.s3, i64_w, i32_w]; rfl
              refine take_ (i := 6) (N := some 18) (v := ?_) (a' := ?_) #[true, true, true, true, true, true, true, false, false, false, false, false, false, false, false, false, false, false, false, false, false, false, false, false, false] rfl rfl (by kernel_rfl) (fun _ _ _ h => h) (Or.inl ⟨by rfl, ?_⟩) hHeld ?_ ?_
              rotate_left
              · rintro w' ⟨s0, s1, s2⟩
                go_simp
                with_reducible rfl
              rotate_left
              · simp only [Act.put, OpenRow.s1, OpenRow.s2, OpenRow.s3, i64_w, i32_w]; rfl
              refine pure_ (i := 7) (N := some 19) (v := ?_) (a' := ?_) #[true, true, true, true, true, true, true, true, false, false, false, false, false, false, false, false, false, false, false, false, false, false, false, false, false] rfl rfl (by kernel_rfl) (fun _ _ _ h => h) (Or.inl ⟨by rfl, ?_⟩) ?_ ?_
              rotate_left
              · intro w'; go_simp; with_reducible rfl
              rotate_left
              · simp only [Act.put, OpenRow.s1, OpenRow.s2, OpenRow.s3, i64_w, i32_w]; rfl
              refine pure_ (i := 8) (N := some 20) (v := ?_) (a' := ?_) #[true, true, true, true, true, true, true, true, true, false, false, false, false, false, false, false, false, false, false, false, false, false, false, false, false] rfl rfl (by kernel_rfl) (fun _ _ _ h => h) (Or.inl ⟨by rfl, ?_⟩) ?_ ?_
              rotate_left
              · intro w'; go_simp; with_reducible rfl
              rotate_left
              · simp only [Act.put, OpenRow.s1, OpenRow.s2, OpenRow.s3, i64_w, i32_w]; rfl
              refine pure_ (i := 9) (N := some 21) (v := ?_) (a' := ?_) #[true, true, true, true, true, true, true, true, true, true, false, false, false, false, false, false, false, false, false, false, false, false, false, false, false] rfl rfl (by kernel_rfl) (fun _ _ _ h => h) (Or.inl ⟨by rfl, ?_⟩) ?_ ?_
              rotate_left
              · intro w'; go_simp; with_reducible rfl
              rotate_left
              · simp only [Act.put, OpenRow.s1, OpenRow.s2, OpenRow.s3, i64_w, i32_w]; rfl
              refine pure_ (i := 10) (N := some 22) (v := ?_) (a' := ?_) #[true, true, true, true, true, true, true, true, true, true, true, false, false, false, false, false, false, false, false, false, false, false, false, false, false] rfl rfl (by kernel_rfl) (fun _ _ _ h => h) (Or.inl ⟨by rfl, ?_⟩) ?_ ?_
              rotate_left
              · intro w'; go_simp; with_reducible rfl
              rotate_left
              · simp only [Act.put, OpenRow.s1, OpenRow.s2, OpenRow.s3, i64_w, i32_w]; rfl
              refine pure_ (i := 11) (N := some 23) (v := ?_) (a' := ?_) #[true, true, true, true, true, true, true, true, true, true, true, true, false, false, false, false, false, false, false, false, false, false, false, false, false] rfl rfl (by kernel_rfl) (fun _ _ _ h => h) (Or.inl ⟨by rfl, ?_⟩) ?_ ?_
              rotate_left
              · intro w'; go_simp; with_reducible rfl
              rotate_left
              · simp only [Act.put, OpenRow.s1, OpenRow.s2, OpenRow.s3, i64_w, i32_w]; rfl
              refine pure_ (i := 12) (N := some 24) (v := ?_) (a' := ?_) #[true, true, true, true, true, true, true, true, true, true, true, true, true, false, false, false, false, false, false, false, false, false, false, false, false] rfl rfl (by kernel_rfl) (fun _ _ _ h => h) (Or.inl ⟨by rfl, ?_⟩) ?_ ?_
              rotate_left
              · intro w'; go_simp; with_reducible rfl
              rotate_left
              · simp only [Act.put, OpenRow.s1, OpenRow.s2, OpenRow.s3, i64_w, i32_w]; rfl
              refine pure_ (i := 13) (N := some 25) (v := ?_) (a' := ?_) #[true, true, true, true, true, true, true, true, true, true, true, true, true, true, false, false, false, false, false, false, false, false, false, false, false] rfl rfl (by kernel_rfl) (fun _ _ _ h => h) (Or.inl ⟨by rfl, ?_⟩) ?_ ?_
              rotate_left
              · intro w'; go_simp; with_reducible rfl
              rotate_left
              · simp only [Act.put, OpenRow.s1, OpenRow.s2, OpenRow.s3, i64_w, i32_w]; rfl
              refine pure_ (i := 14) (N := some 26) (v := ?_) (a' := ?_) #[true, true, true, true, true, true, true, true, true, true, true, true, true, true, true, false, false, false, false, false, false, false, false, false, false] rfl rfl (by kernel_rfl) (fun _ _ _ h => h) (Or.inl ⟨by rfl, ?_⟩) ?_ ?_
              rotate_left
              · intro w'; go_simp; with_reducible rfl
              rotate_left
              · simp only [Act.put, OpenRow.s1, OpenRow.s2, OpenRow.s3, i64_w, i32_w]; rfl
              refine pure_ (i := 15) (N := some 27) (v := ?_) (a' := ?_) #[true, true, true, true, true, true, true, true, true, true, true, true, true, true, true, true, false, false, false, false, false, false, false, false, false] rfl rfl (by kernel_rfl) (fun _ _ _ h => h) (Or.inl ⟨by rfl, ?_⟩) ?_ ?_
              rotate_left
              · intro w'; go_simp; with_reducible rfl
              rotate_left
              · simp only [Act.put, OpenRow.s1, OpenRow.s2, OpenRow.s3, i64_w, i32_w]; rfl
              refine pure_ (i := 16) (N := some 28) (v := ?_) (a' := ?_) #[true, true, true, true, true, true, true, true, true, true, true, true, true, true, true, true, true, false, false, false, false, false, false, false, false] rfl rfl (by kernel_rfl) (fun _ _ _ h => h) (Or.inl ⟨by rfl, ?_⟩) ?_ ?_
              rotate_left
              · intro w'; go_simp; with_reducible rfl
              rotate_left
              · simp only [Act.put, OpenRow.s1, OpenRow.s2, OpenRow.s3, i64_w, i32_w]; rfl
              refine pure_ (i := 17) (N := some 29) (v := ?_) (a' := ?_) #[true, true, true, true, true, true, true, true, true, true, true, true, true, true, true, true, true, true, false, false, false, false, false, false, false] rfl rfl (by kernel_rfl) (fun _ _ _ h => h) (Or.inl ⟨by rfl, ?_⟩) ?_ ?_
              rotate_left
              · intro w'; go_simp; with_reducible rfl
              rotate_left
              · simp only [Act.put, OpenRow.s1, OpenRow.s2, OpenRow.s3, i64_w, i32_w]; rfl
              refine pure_ (i := 18) (N := some 30) (v := ?_) (a' := ?_) #[true, true, true, true, true, true, true, true, true, true, true, true, true, true, true, true, true, true, true, false, false, false, false, false, false] rfl rfl (by kernel_rfl) (fun _ _ _ h => h) (Or.inl ⟨by rfl, ?_⟩) ?_ ?_
              rotate_left
              · intro w'; go_simp; with_reducible rfl
              rotate_left
              · simp only [Act.put, OpenRow.s1, OpenRow.s2, OpenRow.s3, i64_w, i32_w]; rfl
              refine pure_ (i := 20) (N := some 32) (v := ?_) (a' := ?_) #[true, true, true, true, true, true, true, true, true, true, true, true, true, true, true, true, true, true, true, false, true, false, false, false, false] rfl rfl (by kernel_rfl) (fun _ _ _ h => h) (Or.inl ⟨by rfl, ?_⟩) ?_ ?_
              rotate_left
              · intro w'; go_simp; with_reducible rfl
              rotate_left
              · simp only [Act.put, OpenRow.s1, OpenRow.s2, OpenRow.s3, i64_w, i32_w]; rfl
              refine take_ (i := 19) (N := some 31) (v := ?_) (a' := ?_) #[true, true, true, true, true, true, true, true, true, true, true, true, true, true, true, true, true, true, true, true, true, false, false, false, false] rfl rfl (by kernel_rfl) (fun _ _ _ h => h) (Or.inl ⟨by rfl, ?_⟩) hHeld ?_ ?_
              rotate_left
              · rintro w' ⟨s0, s1, s2⟩
                go_simp
                with_reducible rfl
              rotate_left
              · simp only [Act.put, OpenRow.s1, OpenRow.s2, OpenRow.s3, i64_w, i32_w]; rfl
              refine take_ (i := 21) (N := some 33) (v := ?_) (a' := ?_) #[true, true, true, true, true, true, true, true, true, true, true, true, true, true, true, true, true, true, true, true, true, true, false, false, false] rfl rfl (by kernel_rfl) (fun _ _ _ h => h) (Or.inl ⟨by rfl, ?_⟩) hHeld ?_ ?_
              rotate_left
              · rintro w' ⟨s0, s1, s2⟩
                go_simp
                with_reducible rfl
              rotate_left
              · simp only [Act.put, OpenRow.s1, OpenRow.s2, OpenRow.s3, i64_w, i32_w]; rfl
              refine pure_ (i := 22) (N := some 34) (v := ?_) (a' := ?_) #[true, true, true, true, true, true, true, true, true, true, true, true, true, true, true, true, true, true, true, true, true, true, true, false, false] rfl rfl (by kernel_rfl) (fun _ _ _ h => h) (Or.inl ⟨by rfl, ?_⟩) ?_ ?_
              rotate_left
              · intro w'; go_simp; with_reducible rfl
              rotate_left
              · simp only [Act.put, OpenRow.s1, OpenRow.s2, OpenRow.s3, i64_w, i32_w]; rfl
              refine pure_ (i := 23) (N := some 35) (v := ?_) (a' := ?_) #[true, true, true, true, true, true, true, true, true, true, true, true, true, true, true, true, true, true, true, true, true, true, true, true, false] rfl rfl (by kernel_rfl) (fun _ _ _ h => h) (Or.inl ⟨by rfl, ?_⟩) ?_ ?_
              rotate_left
              · intro w'; go_simp; with_reducible rfl
              rotate_left
              · simp only [Act.put, OpenRow.s1, OpenRow.s2, OpenRow.s3, i64_w, i32_w]; rfl
              refine pure_ (i := 24) (N := some 36) (v := ?_) (a' := ?_) #[true, true, true, true, true, true, true, true, true, true, true, true, true, true, true, true, true, true, true, true, true, true, true, true, true] rfl rfl (by kernel_rfl) (fun _ _ _ h => h) (Or.inl ⟨by rfl, ?_⟩) ?_ ?_
              rotate_left
              · intro w'; go_simp; with_reducible rfl
              rotate_left
              · simp only [Act.put, OpenRow.s1, OpenRow.s2, OpenRow.s3, i64_w, i32_w]; rfl
              refine done_ (by kernel_rfl) ?_

              go_wp2
              go_roundg (l0.length - (kk + 1))
              case measure => omega
              case rel => exact ⟨kk + 1, by omega, by omega, by go_num, HB3, HJ2⟩
            | false =>
              have hat : spec_l03Store.at_ l0 kk = false := by unfold spec_l03Store.at_; rw [hpk, show kk - 1 = m by omega, hbl, decide_eq_false (show ¬ kk = 0 by omega)]; rfl
              have HNA := Aside0.mk (spec_l03Store.not_all hlt hat)
              have HKB := Aside0.mk hkey
              have HVB := Aside0.mk hval
              clear hat hkm hkey hval hpk HX
              have HC := Aside0.mk (fun W => impl_isKey.calls _ _ W (impl_isStore.key (l0.getD kk z74).f0))
              generalize (l0.getD kk z74).f0 = k0 at *
              generalize (l0.getD kk z74).f1 = k1 at *
              have hkb : (decide (0 < k0.size) && decide (k0.size ≤ 60)) = true := HKB.out
              rw [hkb] at HC
              clear hkb
              have hvz : ¬ ((k1.size : Int) > 400) := by have := HVB.out; omega
              have hvd : decide ((400 : Int) < (k1.size : Int)) = false := decide_eq_false (by have := HVB.out; omega)
              generalize (l0.getD m z74).f0 = m0 at *
              have hy00 := hy0
              clear hy0
              have em := EM.out
              have hi0 : (0 : Int) ≤ (kk : Int) := by omega
              have hi1 : (0 : Int) ≤ (m : Int) := by omega

              go_wp2_with fail
              obtain ⟨W1, hW1⟩ : ∃ W_, W_ = wr.alloc (.cells #[.string k0, .string k1] 74) := ⟨_, rfl⟩
              obtain ⟨gb, hgb⟩ : ∃ g_, g_ = wr.heap.size := ⟨_, rfl⟩
              rw [← hW1, ← hgb]
              have hbox : W1.heap[gb]? = some (.cells #[.string k0, .string k1] 74 (0, 0)) := by rw [hW1, hgb]; exact blk_new _ _
              have HB1 := Aside0.mk (show Below w.heap.size w W1 by rw [hW1]; exact below_alloc HB.out _)
              have y0 : W1.cell? ⟨gb, 0, none⟩ = some (.string k0) := (blk_cell hbox 0).trans rfl
              have y1 : W1.cell? ⟨gb, 1, none⟩ = some (.string k1) := (blk_cell hbox 1).trans rfl
              have hy0 : W1.cell? (ad.add (m * 2)) = some (.string m0) := by rw [hW1]; exact Lib.cell?_alloc_some _ hy00
              clear hy00
              clear hbox hW1 hgb hx0 hx1
              refine start_ (n := 25) (S := fun w' => w'.cell? ⟨gb, 0, none⟩ = some (.string k0) ∧ w'.cell? ⟨gb, 1, none⟩ = some (.string k1) ∧ w'.cell? (ad.add (m * 2)) = some (.string m0)) (ds := []) #[false, false, false, false, false, false, false, false, false, false, false, false, false, false, false, false, false, false, false, false, false, false, false, false, false] (by kernel_rfl) rfl rfl ⟨y0, y1, hy0⟩ (fun hHeld => ?_)
              refine pure_ (i := 0) (N := some 12) (v := ?_) (a' := ?_) #[true, false, false, false, false, false, false, false, false, false, false, false, false, false, false, false, false, false, false, false, false, false, false, false, false] rfl rfl (by kernel_rfl) (fun _ _ _ h => h) (Or.inl ⟨by rfl, ?_⟩) ?_ ?_
              rotate_left
              · intro w'; go_simp; with_reducible rfl
              rotate_left
              · simp only [Act.put, OpenRow.s1, OpenRow.s2, OpenRow.s3, i64_w, i32_w]; rfl
              refine take_ (i := 1) (N := some 13) (v := ?_) (a' := ?_) #[true, true, false, false, false, false, false, false, false, false, false, false, false, false, false, false, false, false, false, false, false, false, false, false, false] rfl rfl (by kernel_rfl) (fun _ _ _ h => h) (Or.inl ⟨by rfl, ?_⟩) hHeld ?_ ?_
              rotate_left
              · rintro w' ⟨s0, s1, s2⟩
                go_simp
                with_reducible rfl
              rotate_left
              · simp only [Act.put, OpenRow.s1, OpenRow.s2, OpenRow.s3, i64_w, i32_w]; rfl
              refine one_ (i := 2) (N := some 14) #[true, true, true, false, false, false, false, false, false, false, false, false, false, false, false, false, false, false, false, false, false, false, false, false, false] rfl rfl (by kernel_rfl) (by decide) (fun K hK => ?_)
              refine goes_ Try.func88 (by kernel_rfl) rfl #[.string k0] (by rfl) rfl rfl (by simp only [List.map_toArray, List.map_cons, List.map_nil] <;> rfl) ?_
              with_reducible refine (HC.out _).mono ?_
              rintro e w3 ⟨rfl, hd_⟩
              refine ⟨_, rfl, ?_⟩
              have hb_ := hd_.below
              have HB3 := Aside0.mk (below_step (below_drew1 HB1.out) hb_)
              refine hK.out _ _ ⟨(hb_.cell (World.block_lt_of_cell? _ _ (hHeld.1))).trans (hHeld.1), (hb_.cell (World.block_lt_of_cell? _ _ (hHeld.2.1))).trans (hHeld.2.1), (hb_.cell (World.block_lt_of_cell? _ _ (hHeld.2.2))).trans (hHeld.2.2)⟩ (fun hHeld => ?_)
              clear hK K
              refine norm_ (a' := ?_) ?_ ?_
              rotate_left
              · show Act.put _ (some 14) _ = _
                simp only [Act.put, OpenRow.s1, OpenRow.s2, OpenRow.s3, i64_w, i32_w]
                rfl
              refine pure_ (i := 3) (N := some 15) (v := ?_) (a' := ?_) #[true, true, true, true, false, false, false, false, false, false, false, false, false, false, false, false, false, false, false, false, false, false, false, false, false] rfl rfl (by kernel_rfl) (fun _ _ _ h => h) (Or.inl ⟨by rfl, ?_⟩) ?_ ?_
              rotate_left
              · intro w'; go_simp; with_reducible rfl
              rotate_left
              · simp only [Act.put, OpenRow.s1, OpenRow.s2, OpenRow.s3, i64_w, i32_w]; rfl
              refine pure_ (i := 4) (N := some 16) (v := ?_) (a' := ?_) #[true, true, true, true, true, false, false, false, false, false, false, false, false, false, false, false, false, false, false, false, false, false, false, false, false] rfl rfl (by kernel_rfl) (fun _ _ _ h => h) (Or.inl ⟨by rfl, ?_⟩) ?_ ?_
              rotate_left
              · intro w'; go_simp; with_reducible rfl
              rotate_left
              · simp only [Act.put, OpenRow.s1, OpenRow.s2, OpenRow.s3, i64_w, i32_w]; rfl
              refine pure_ (i := 5) (N := some 17) (v := ?_) (a' := ?_) #[true, true, true, true, true, true, false, false, false, false, false, false, false, false, false, false, false, false, false, false, false, false, false, false, false] rfl rfl (by kernel_rfl) (fun _ _ _ h => h) (Or.inl ⟨by rfl, ?_⟩) ?_ ?_
              rotate_left
              · intro w'; go_simp; with_reducible rfl
              rotate_left
              · simp only [Act.put, OpenRow.s1, OpenRow.s2, OpenRow.s3, i64_w, i32_w]; rfl
              refine take_ (i := 6) (N := some 18) (v := ?_) (a' := ?_) #[true, true, true, true, true, true, true, false, false, false, false, false, false, false, false, false, false, false, false, false, false, false, false, false, false] rfl rfl (by kernel_rfl) (fun _ _ _ h => h) (Or.inl ⟨by rfl, ?_⟩) hHeld ?_ ?_
              rotate_left
              · rintro w' ⟨s0, s1, s2⟩
                go_simp
                with_reducible rfl
              rotate_left
              · simp only [Act.put, OpenRow.s1, OpenRow.s2, OpenRow.s3, i64_w, i32_w]; rfl
              refine pure_ (i := 7) (N := some 19) (v := ?_) (a' := ?_) #[true, true, true, true, true, true, true, true, false, false, false, false, false, false, false, false, false, false, false, false, false, false, false, false, false] rfl rfl (by kernel_rfl) (fun _ _ _ h => h) (Or.inl ⟨by rfl, ?_⟩) ?_ ?_
              rotate_left
              · intro w'; go_simp; with_reducible rfl
              rotate_left
              · simp only [Act.put, OpenRow.s1, OpenRow.s2, OpenRow.s3, i64_w, i32_w]; rfl
              refine pure_ (i := 8) (N := some 20) (v := ?_) (a' := ?_) #[true, true, true, true, true, true, true, true, true, false, false, false, false, false, false, false, false, false, false, false, false, false, false, false, false] rfl rfl (by kernel_rfl) (fun _ _ _ h => h) (Or.inl ⟨by rfl, ?_⟩) ?_ ?_
              rotate_left
              · intro w'; go_simp; with_reducible rfl
              rotate_left
              · simp only [Act.put, OpenRow.s1, OpenRow.s2, OpenRow.s3, i64_w, i32_w]; rfl
              refine pure_ (i := 9) (N := some 21) (v := ?_) (a' := ?_) #[true, true, true, true, true, true, true, true, true, true, false, false, false, false, false, false, false, false, false, false, false, false, false, false, false] rfl rfl (by kernel_rfl) (fun _ _ _ h => h) (Or.inl ⟨by rfl, ?_⟩) ?_ ?_
              rotate_left
              · intro w'; go_simp; with_reducible rfl
              rotate_left
              · simp only [Act.put, OpenRow.s1, OpenRow.s2, OpenRow.s3, i64_w, i32_w]; rfl
              refine pure_ (i := 10) (N := some 22) (v := ?_) (a' := ?_) #[true, true, true, true, true, true, true, true, true, true, true, false, false, false, false, false, false, false, false, false, false, false, false, false, false] rfl rfl (by kernel_rfl) (fun _ _ _ h => h) (Or.inl ⟨by rfl, ?_⟩) ?_ ?_
              rotate_left
              · intro w'; go_simp; with_reducible rfl
              rotate_left
              · simp only [Act.put, OpenRow.s1, OpenRow.s2, OpenRow.s3, i64_w, i32_w]; rfl
              refine pure_ (i := 11) (N := some 23) (v := ?_) (a' := ?_) #[true, true, true, true, true, true, true, true, true, true, true, true, false, false, false, false, false, false, false, false, false, false, false, false, false] rfl rfl (by kernel_rfl) (fun _ _ _ h => h) (Or.inl ⟨by rfl, ?_⟩) ?_ ?_
              rotate_left
              · intro w'; go_simp; with_reducible rfl
              rotate_left
              · simp only [Act.put, OpenRow.s1, OpenRow.s2, OpenRow.s3, i64_w, i32_w]; rfl
              refine pure_ (i := 12) (N := some 24) (v := ?_) (a' := ?_) #[true, true, true, true, true, true, true, true, true, true, true, true, true, false, false, false, false, false, false, false, false, false, false, false, false] rfl rfl (by kernel_rfl) (fun _ _ _ h => h) (Or.inl ⟨by rfl, ?_⟩) ?_ ?_
              rotate_left
              · intro w'; go_simp; with_reducible rfl
              rotate_left
              · simp only [Act.put, OpenRow.s1, OpenRow.s2, OpenRow.s3, i64_w, i32_w]; rfl
              refine pure_ (i := 13) (N := some 25) (v := ?_) (a' := ?_) #[true, true, true, true, true, true, true, true, true, true, true, true, true, true, false, false, false, false, false, false, false, false, false, false, false] rfl rfl (by kernel_rfl) (fun _ _ _ h => h) (Or.inl ⟨by rfl, ?_⟩) ?_ ?_
              rotate_left
              · intro w'; go_simp; with_reducible rfl
              rotate_left
              · simp only [Act.put, OpenRow.s1, OpenRow.s2, OpenRow.s3, i64_w, i32_w]; rfl
              refine pure_ (i := 14) (N := some 26) (v := ?_) (a' := ?_) #[true, true, true, true, true, true, true, true, true, true, true, true, true, true, true, false, false, false, false, false, false, false, false, false, false] rfl rfl (by kernel_rfl) (fun _ _ _ h => h) (Or.inl ⟨by rfl, ?_⟩) ?_ ?_
              rotate_left
              · intro w'; go_simp; with_reducible rfl
              rotate_left
              · simp only [Act.put, OpenRow.s1, OpenRow.s2, OpenRow.s3, i64_w, i32_w]; rfl
              refine pure_ (i := 15) (N := some 27) (v := ?_) (a' := ?_) #[true, true, true, true, true, true, true, true, true, true, true, true, true, true, true, true, false, false, false, false, false, false, false, false, false] rfl rfl (by kernel_rfl) (fun _ _ _ h => h) (Or.inl ⟨by rfl, ?_⟩) ?_ ?_
              rotate_left
              · intro w'; go_simp; with_reducible rfl
              rotate_left
              · simp only [Act.put, OpenRow.s1, OpenRow.s2, OpenRow.s3, i64_w, i32_w]; rfl
              refine pure_ (i := 16) (N := some 28) (v := ?_) (a' := ?_) #[true, true, true, true, true, true, true, true, true, true, true, true, true, true, true, true, true, false, false, false, false, false, false, false, false] rfl rfl (by kernel_rfl) (fun _ _ _ h => h) (Or.inl ⟨by rfl, ?_⟩) ?_ ?_
              rotate_left
              · intro w'; go_simp; with_reducible rfl
              rotate_left
              · simp only [Act.put, OpenRow.s1, OpenRow.s2, OpenRow.s3, i64_w, i32_w]; rfl
              refine pure_ (i := 17) (N := some 29) (v := ?_) (a' := ?_) #[true, true, true, true, true, true, true, true, true, true, true, true, true, true, true, true, true, true, false, false, false, false, false, false, false] rfl rfl (by kernel_rfl) (fun _ _ _ h => h) (Or.inl ⟨by rfl, ?_⟩) ?_ ?_
              rotate_left
              · intro w'; go_simp; with_reducible rfl
              rotate_left
              · simp only [Act.put, OpenRow.s1, OpenRow.s2, OpenRow.s3, i64_w, i32_w]; rfl
              refine pure_ (i := 18) (N := some 30) (v := ?_) (a' := ?_) #[true, true, true, true, true, true, true, true, true, true, true, true, true, true, true, true, true, true, true, false, false, false, false, false, false] rfl rfl (by kernel_rfl) (fun _ _ _ h => h) (Or.inl ⟨by rfl, ?_⟩) ?_ ?_
              rotate_left
              · intro w'; go_simp; with_reducible rfl
              rotate_left
              · simp only [Act.put, OpenRow.s1, OpenRow.s2, OpenRow.s3, i64_w, i32_w]; rfl
              refine pure_ (i := 20) (N := some 32) (v := ?_) (a' := ?_) #[true, true, true, true, true, true, true, true, true, true, true, true, true, true, true, true, true, true, true, false, true, false, false, false, false] rfl rfl (by kernel_rfl) (fun _ _ _ h => h) (Or.inl ⟨by rfl, ?_⟩) ?_ ?_
              rotate_left
              · intro w'; go_simp; with_reducible rfl
              rotate_left
              · simp only [Act.put, OpenRow.s1, OpenRow.s2, OpenRow.s3, i64_w, i32_w]; rfl
              refine take_ (i := 19) (N := some 31) (v := ?_) (a' := ?_) #[true, true, true, true, true, true, true, true, true, true, true, true, true, true, true, true, true, true, true, true, true, false, false, false, false] rfl rfl (by kernel_rfl) (fun _ _ _ h => h) (Or.inl ⟨by rfl, ?_⟩) hHeld ?_ ?_
              rotate_left
              · rintro w' ⟨s0, s1, s2⟩
                go_simp
                with_reducible rfl
              rotate_left
              · simp only [Act.put, OpenRow.s1, OpenRow.s2, OpenRow.s3, i64_w, i32_w]; rfl
              refine take_ (i := 21) (N := some 33) (v := ?_) (a' := ?_) #[true, true, true, true, true, true, true, true, true, true, true, true, true, true, true, true, true, true, true, true, true, true, false, false, false] rfl rfl (by kernel_rfl) (fun _ _ _ h => h) (Or.inl ⟨by rfl, ?_⟩) hHeld ?_ ?_
              rotate_left
              · rintro w' ⟨s0, s1, s2⟩
                go_simp
                with_reducible rfl
              rotate_left
              · simp only [Act.put, OpenRow.s1, OpenRow.s2, OpenRow.s3, i64_w, i32_w]; rfl
              refine pure_ (i := 22) (N := some 34) (v := ?_) (a' := ?_) #[true, true, true, true, true, true, true, true, true, true, true, true, true, true, true, true, true, true, true, true, true, true, true, false, false] rfl rfl (by kernel_rfl) (fun _ _ _ h => h) (Or.inl ⟨by rfl, ?_⟩) ?_ ?_
              rotate_left
              · intro w'; go_simp; with_reducible rfl
              rotate_left
              · simp only [Act.put, OpenRow.s1, OpenRow.s2, OpenRow.s3, i64_w, i32_w]; rfl
              refine pure_ (i := 23) (N := some 35) (v := ?_) (a' := ?_) #[true, true, true, true, true, true, true, true, true, true, true, true, true, true, true, true, true, true, true, true, true, true, true, true, false] rfl rfl (by kernel_rfl) (fun _ _ _ h => h) (Or.inl ⟨by rfl, ?_⟩) ?_ ?_
              rotate_left
              · intro w'; go_simp; with_reducible rfl
              rotate_left
              · simp only [Act.put, OpenRow.s1, OpenRow.s2, OpenRow.s3, i64_w, i32_w]; rfl
              refine pure_ (i := 24) (N := some 36) (v := ?_) (a' := ?_) #[true, true, true, true, true, true, true, true, true, true, true, true, true, true, true, true, true, true, true, true, true, true, true, true, true] rfl rfl (by kernel_rfl) (fun _ _ _ h => h) (Or.inl ⟨by rfl, ?_⟩) ?_ ?_
              rotate_left
              · intro w'; go_simp; with_reducible rfl
              rotate_left
              · simp only [Act.put, OpenRow.s1, OpenRow.s2, OpenRow.s3, i64_w, i32_w]; rfl
              refine done_ (by kernel_rfl) ?_

              go_wp2
              go_ret
              exact ⟨by rw [← HRQ.out, HNA.out, Bool.and_false]; rfl, HB3.out⟩
  
        · have hat : spec_l03Store.at_ l0 kk = false := by unfold spec_l03Store.at_ spec_l03Store.pairB; rw [decide_eq_false hval]; simp
          have HNA := Aside0.mk (spec_l03Store.not_all hlt hat)
          have HKB := Aside0.mk hkey
          have HVB := Aside0.mk hval
          clear hat hkey hval
          have HC := Aside0.mk (fun W => impl_isKey.calls _ _ W (impl_isStore.key (l0.getD kk z74).f0))
          generalize (l0.getD kk z74).f0 = k0 at *
          generalize (l0.getD kk z74).f1 = k1 at *
          have hkb : (decide (0 < k0.size) && decide (k0.size ≤ 60)) = true := HKB.out
          rw [hkb] at HC
          clear hkb
          have hvd : decide ((400 : Int) < (k1.size : Int)) = true := decide_eq_true (by have := HVB.out; omega)
          have hvz : ((k1.size : Int) > 400) := by have := HVB.out; omega

          go_wp2_with fail
          obtain ⟨W1, hW1⟩ : ∃ W_, W_ = wr.alloc (.cells #[.string k0, .string k1] 74) := ⟨_, rfl⟩
          obtain ⟨gb, hgb⟩ : ∃ g_, g_ = wr.heap.size := ⟨_, rfl⟩
          rw [← hW1, ← hgb]
          have hbox : W1.heap[gb]? = some (.cells #[.string k0, .string k1] 74 (0, 0)) := by rw [hW1, hgb]; exact blk_new _ _
          have HB1 := Aside0.mk (show Below w.heap.size w W1 by rw [hW1]; exact below_alloc HB.out _)
          have y0 : W1.cell? ⟨gb, 0, none⟩ = some (.string k0) := (blk_cell hbox 0).trans rfl
          have y1 : W1.cell? ⟨gb, 1, none⟩ = some (.string k1) := (blk_cell hbox 1).trans rfl
          clear hbox hW1 hgb hx0 hx1
          refine start_ (n := 25) (S := fun w' => w'.cell? ⟨gb, 0, none⟩ = some (.string k0) ∧ w'.cell? ⟨gb, 1, none⟩ = some (.string k1)) (ds := []) #[false, false, false, false, false, false, false, false, false, false, false, false, false, false, false, false, false, false, false, false, false, false, false, false, false] (by kernel_rfl) rfl rfl ⟨y0, y1⟩ (fun hHeld => ?_)
          refine pure_ (i := 0) (N := some 12) (v := ?_) (a' := ?_) #[true, false, false, false, false, false, false, false, false, false, false, false, false, false, false, false, false, false, false, false, false, false, false, false, false] rfl rfl (by kernel_rfl) (fun _ _ _ h => h) (Or.inl ⟨by rfl, ?_⟩) ?_ ?_
          rotate_left
          · intro w'; go_simp; with_reducible rfl
          rotate_left
          · simp only [Act.put, OpenRow.s1, OpenRow.s2, OpenRow.s3, i64_w, i32_w]; rfl
          refine take_ (i := 1) (N := some 13) (v := ?_) (a' := ?_) #[true, true, false, false, false, false, false, false, false, false, false, false, false, false, false, false, false, false, false, false, false, false, false, false, false] rfl rfl (by kernel_rfl) (fun _ _ _ h => h) (Or.inl ⟨by rfl, ?_⟩) hHeld ?_ ?_
          rotate_left
          · rintro w' ⟨s0, s1⟩
            go_simp
            with_reducible rfl
          rotate_left
          · simp only [Act.put, OpenRow.s1, OpenRow.s2, OpenRow.s3, i64_w, i32_w]; rfl
          refine one_ (i := 2) (N := some 14) #[true, true, true, false, false, false, false, false, false, false, false, false, false, false, false, false, false, false, false, false, false, false, false, false, false] rfl rfl (by kernel_rfl) (by decide) (fun K hK => ?_)
          refine goes_ Try.func88 (by kernel_rfl) rfl #[.string k0] (by rfl) rfl rfl (by simp only [List.map_toArray, List.map_cons, List.map_nil] <;> rfl) ?_
          with_reducible refine (HC.out _).mono ?_
          rintro e w3 ⟨rfl, hd_⟩
          refine ⟨_, rfl, ?_⟩
          have hb_ := hd_.below
          have HB3 := Aside0.mk (below_step (below_drew1 HB1.out) hb_)
          refine hK.out _ _ ⟨(hb_.cell (World.block_lt_of_cell? _ _ (hHeld.1))).trans (hHeld.1), (hb_.cell (World.block_lt_of_cell? _ _ (hHeld.2))).trans (hHeld.2)⟩ (fun hHeld => ?_)
          clear hK K
          refine norm_ (a' := ?_) ?_ ?_
          rotate_left
          · show Act.put _ (some 14) _ = _
            simp only [Act.put, OpenRow.s1, OpenRow.s2, OpenRow.s3, i64_w, i32_w]
            rfl
          refine pure_ (i := 3) (N := some 15) (v := ?_) (a' := ?_) #[true, true, true, true, false, false, false, false, false, false, false, false, false, false, false, false, false, false, false, false, false, false, false, false, false] rfl rfl (by kernel_rfl) (fun _ _ _ h => h) (Or.inl ⟨by rfl, ?_⟩) ?_ ?_
          rotate_left
          · intro w'; go_simp; with_reducible rfl
          rotate_left
          · simp only [Act.put, OpenRow.s1, OpenRow.s2, OpenRow.s3, i64_w, i32_w]; rfl
          refine pure_ (i := 4) (N := some 16) (v := ?_) (a' := ?_) #[true, true, true, true, true, false, false, false, false, false, false, false, false, false, false, false, false, false, false, false, false, false, false, false, false] rfl rfl (by kernel_rfl) (fun _ _ _ h => h) (Or.inl ⟨by rfl, ?_⟩) ?_ ?_
          rotate_left
          · intro w'; go_simp; with_reducible rfl
          rotate_left
          · simp only [Act.put, OpenRow.s1, OpenRow.s2, OpenRow.s3, i64_w, i32_w]; rfl
          refine pure_ (i := 5) (N := some 17) (v := ?_) (a' := ?_) #[true, true, true, true, true, true, false, false, false, false, false, false, false, false, false, false, false, false, false, false, false, false, false, false, false] rfl rfl (by kernel_rfl) (fun _ _ _ h => h) (Or.inl ⟨by rfl, ?_⟩) ?_ ?_
          rotate_left
          · intro w'; go_simp; with_reducible rfl
          rotate_left
          · simp only [Act.put, OpenRow.s1, OpenRow.s2, OpenRow.s3, i64_w, i32_w]; rfl
          refine take_ (i := 6) (N := some 18) (v := ?_) (a' := ?_) #[true, true, true, true, true, true, true, false, false, false, false, false, false, false, false, false, false, false, false, false, false, false, false, false, false] rfl rfl (by kernel_rfl) (fun _ _ _ h => h) (Or.inl ⟨by rfl, ?_⟩) hHeld ?_ ?_
          rotate_left
          · rintro w' ⟨s0, s1⟩
            go_simp
            with_reducible rfl
          rotate_left
          · simp only [Act.put, OpenRow.s1, OpenRow.s2, OpenRow.s3, i64_w, i32_w]; rfl
          refine pure_ (i := 7) (N := some 19) (v := ?_) (a' := ?_) #[true, true, true, true, true, true, true, true, false, false, false, false, false, false, false, false, false, false, false, false, false, false, false, false, false] rfl rfl (by kernel_rfl) (fun _ _ _ h => h) (Or.inl ⟨by rfl, ?_⟩) ?_ ?_
          rotate_left
          · intro w'; go_simp; with_reducible rfl
          rotate_left
          · simp only [Act.put, OpenRow.s1, OpenRow.s2, OpenRow.s3, i64_w, i32_w]; rfl
          refine pure_ (i := 8) (N := some 20) (v := ?_) (a' := ?_) #[true, true, true, true, true, true, true, true, true, false, false, false, false, false, false, false, false, false, false, false, false, false, false, false, false] rfl rfl (by kernel_rfl) (fun _ _ _ h => h) (Or.inl ⟨by rfl, ?_⟩) ?_ ?_
          rotate_left
          · intro w'; go_simp; with_reducible rfl
          rotate_left
          · simp only [Act.put, OpenRow.s1, OpenRow.s2, OpenRow.s3, i64_w, i32_w]; rfl
          refine pure_ (i := 9) (N := some 21) (v := ?_) (a' := ?_) #[true, true, true, true, true, true, true, true, true, true, false, false, false, false, false, false, false, false, false, false, false, false, false, false, false] rfl rfl (by kernel_rfl) (fun _ _ _ h => h) (Or.inl ⟨by rfl, ?_⟩) ?_ ?_
          rotate_left
          · intro w'; go_simp; with_reducible rfl
          rotate_left
          · simp only [Act.put, OpenRow.s1, OpenRow.s2, OpenRow.s3, i64_w, i32_w]; rfl
          refine pure_ (i := 10) (N := some 22) (v := ?_) (a' := ?_) #[true, true, true, true, true, true, true, true, true, true, true, false, false, false, false, false, false, false, false, false, false, false, false, false, false] rfl rfl (by kernel_rfl) (fun _ _ _ h => h) (Or.inl ⟨by rfl, ?_⟩) ?_ ?_
          rotate_left
          · intro w'; go_simp; with_reducible rfl
          rotate_left
          · simp only [Act.put, OpenRow.s1, OpenRow.s2, OpenRow.s3, i64_w, i32_w]; rfl
          refine pure_ (i := 11) (N := some 23) (v := undef) (a' := ?_) #[true, true, true, true, true, true, true, true, true, true, true, true, false, false, false, false, false, false, false, false, false, false, false, false, false] rfl rfl (by kernel_rfl) (fun _ _ _ h => h) (Or.inr ⟨by rfl, rfl⟩) ?_ ?_
          rotate_left
          · simp only [Act.put, OpenRow.s1, OpenRow.s2, OpenRow.s3, i64_w, i32_w]; rfl
          refine pure_ (i := 12) (N := some 24) (v := undef) (a' := ?_) #[true, true, true, true, true, true, true, true, true, true, true, true, true, false, false, false, false, false, false, false, false, false, false, false, false] rfl rfl (by kernel_rfl) (fun _ _ _ h => h) (Or.inr ⟨by rfl, rfl⟩) ?_ ?_
          rotate_left
          · simp only [Act.put, OpenRow.s1, OpenRow.s2, OpenRow.s3, i64_w, i32_w]; rfl
          refine pure_ (i := 13) (N := some 25) (v := undef) (a' := ?_) #[true, true, true, true, true, true, true, true, true, true, true, true, true, true, false, false, false, false, false, false, false, false, false, false, false] rfl rfl (by kernel_rfl) (fun _ _ _ h => h) (Or.inr ⟨by rfl, rfl⟩) ?_ ?_
          rotate_left
          · simp only [Act.put, OpenRow.s1, OpenRow.s2, OpenRow.s3, i64_w, i32_w]; rfl
          refine pure_ (i := 14) (N := some 26) (v := undef) (a' := ?_) #[true, true, true, true, true, true, true, true, true, true, true, true, true, true, true, false, false, false, false, false, false, false, false, false, false] rfl rfl (by kernel_rfl) (fun _ _ _ h => h) (Or.inr ⟨by rfl, rfl⟩) ?_ ?_
          rotate_left
          · simp only [Act.put, OpenRow.s1, OpenRow.s2, OpenRow.s3, i64_w, i32_w]; rfl
          refine pure_ (i := 15) (N := some 27) (v := undef) (a' := ?_) #[true, true, true, true, true, true, true, true, true, true, true, true, true, true, true, true, false, false, false, false, false, false, false, false, false] rfl rfl (by kernel_rfl) (fun _ _ _ h => h) (Or.inr ⟨by rfl, rfl⟩) ?_ ?_
          rotate_left
          · simp only [Act.put, OpenRow.s1, OpenRow.s2, OpenRow.s3, i64_w, i32_w]; rfl
          refine pure_ (i := 16) (N := some 28) (v := undef) (a' := ?_) #[true, true, true, true, true, true, true, true, true, true, true, true, true, true, true, true, true, false, false, false, false, false, false, false, false] rfl rfl (by kernel_rfl) (fun _ _ _ h => h) (Or.inr ⟨by rfl, rfl⟩) ?_ ?_
          rotate_left
          · simp only [Act.put, OpenRow.s1, OpenRow.s2, OpenRow.s3, i64_w, i32_w]; rfl
          refine pure_ (i := 17) (N := some 29) (v := undef) (a' := ?_) #[true, true, true, true, true, true, true, true, true, true, true, true, true, true, true, true, true, true, false, false, false, false, false, false, false] rfl rfl (by kernel_rfl) (fun _ _ _ h => h) (Or.inr ⟨by rfl, rfl⟩) ?_ ?_
          rotate_left
          · simp only [Act.put, OpenRow.s1, OpenRow.s2, OpenRow.s3, i64_w, i32_w]; rfl
          refine pure_ (i := 18) (N := some 30) (v := undef) (a' := ?_) #[true, true, true, true, true, true, true, true, true, true, true, true, true, true, true, true, true, true, true, false, false, false, false, false, false] rfl rfl (by kernel_rfl) (fun _ _ _ h => h) (Or.inr ⟨by rfl, rfl⟩) ?_ ?_
          rotate_left
          · simp only [Act.put, OpenRow.s1, OpenRow.s2, OpenRow.s3, i64_w, i32_w]; rfl
          refine pure_ (i := 19) (N := some 31) (v := undef) (a' := ?_) #[true, true, true, true, true, true, true, true, true, true, true, true, true, true, true, true, true, true, true, true, false, false, false, false, false] rfl rfl (by kernel_rfl) (fun _ _ _ h => h) (Or.inr ⟨by rfl, rfl⟩) ?_ ?_
          rotate_left
          · simp only [Act.put, OpenRow.s1, OpenRow.s2, OpenRow.s3, i64_w, i32_w]; rfl
          refine pure_ (i := 20) (N := some 32) (v := undef) (a' := ?_) #[true, true, true, true, true, true, true, true, true, true, true, true, true, true, true, true, true, true, true, true, true, false, false, false, false] rfl rfl (by kernel_rfl) (fun _ _ _ h => h) (Or.inr ⟨by rfl, rfl⟩) ?_ ?_
          rotate_left
          · simp only [Act.put, OpenRow.s1, OpenRow.s2, OpenRow.s3, i64_w, i32_w]; rfl
          refine pure_ (i := 21) (N := some 33) (v := undef) (a' := ?_) #[true, true, true, true, true, true, true, true, true, true, true, true, true, true, true, true, true, true, true, true, true, true, false, false, false] rfl rfl (by kernel_rfl) (fun _ _ _ h => h) (Or.inr ⟨by rfl, rfl⟩) ?_ ?_
          rotate_left
          · simp only [Act.put, OpenRow.s1, OpenRow.s2, OpenRow.s3, i64_w, i32_w]; rfl
          refine pure_ (i := 22) (N := some 34) (v := undef) (a' := ?_) #[true, true, true, true, true, true, true, true, true, true, true, true, true, true, true, true, true, true, true, true, true, true, true, false, false] rfl rfl (by kernel_rfl) (fun _ _ _ h => h) (Or.inr ⟨by rfl, rfl⟩) ?_ ?_
          rotate_left
          · simp only [Act.put, OpenRow.s1, OpenRow.s2, OpenRow.s3, i64_w, i32_w]; rfl
          refine pure_ (i := 23) (N := some 35) (v := undef) (a' := ?_) #[true, true, true, true, true, true, true, true, true, true, true, true, true, true, true, true, true, true, true, true, true, true, true, true, false] rfl rfl (by kernel_rfl) (fun _ _ _ h => h) (Or.inr ⟨by rfl, rfl⟩) ?_ ?_
          rotate_left
          · simp only [Act.put, OpenRow.s1, OpenRow.s2, OpenRow.s3, i64_w, i32_w]; rfl
          refine pure_ (i := 24) (N := some 36) (v := ?_) (a' := ?_) #[true, true, true, true, true, true, true, true, true, true, true, true, true, true, true, true, true, true, true, true, true, true, true, true, true] rfl rfl (by kernel_rfl) (fun _ _ _ h => h) (Or.inl ⟨by rfl, ?_⟩) ?_ ?_
          rotate_left
          · intro w'; go_simp; with_reducible rfl
          rotate_left
          · simp only [Act.put, OpenRow.s1, OpenRow.s2, OpenRow.s3, i64_w, i32_w]; rfl
          refine done_ (by kernel_rfl) ?_

          go_wp2
          go_ret
          exact ⟨by rw [← HRQ.out, HNA.out, Bool.and_false]; rfl, HB3.out⟩
      · have hat : spec_l03Store.at_ l0 kk = false := by
          rw [Bool.not_eq_true] at hkey
          have hp : spec_l03Store.pairB (l0.getD kk z74) = false := by
            rw [Bool.and_eq_false_iff] at hkey
            unfold spec_l03Store.pairB
            rcases hkey with h | h
            · rw [h]; first | rfl | simp
            · rw [h]; first | rfl | simp
          unfold spec_l03Store.at_; rw [hp]; rfl
        have HNA := Aside0.mk (spec_l03Store.not_all hlt hat)
        have HKB := Aside0.mk (show (decide (0 < (l0.getD kk z74).f0.size) && decide ((l0.getD kk z74).f0.size ≤ 60)) = false by rwa [Bool.not_eq_true] at hkey)
        clear hat hkey
        have HC := Aside0.mk (fun W => impl_isKey.calls _ _ W (impl_isStore.key (l0.getD kk z74).f0))
        generalize (l0.getD kk z74).f0 = k0 at *
        generalize (l0.getD kk z74).f1 = k1 at *
        have hkb : (decide (0 < k0.size) && decide (k0.size ≤ 60)) = false := HKB.out
        rw [hkb] at HC
        clear hkb

        go_wp2_with fail
        obtain ⟨W1, hW1⟩ : ∃ W_, W_ = wr.alloc (.cells #[.string k0, .string k1] 74) := ⟨_, rfl⟩
        obtain ⟨gb, hgb⟩ : ∃ g_, g_ = wr.heap.size := ⟨_, rfl⟩
        rw [← hW1, ← hgb]
        have hbox : W1.heap[gb]? = some (.cells #[.string k0, .string k1] 74 (0, 0)) := by rw [hW1, hgb]; exact blk_new _ _
        have HB1 := Aside0.mk (show Below w.heap.size w W1 by rw [hW1]; exact below_alloc HB.out _)
        have y0 : W1.cell? ⟨gb, 0, none⟩ = some (.string k0) := (blk_cell hbox 0).trans rfl
        have y1 : W1.cell? ⟨gb, 1, none⟩ = some (.string k1) := (blk_cell hbox 1).trans rfl
        clear hbox hW1 hgb hx0 hx1
        refine start_ (n := 25) (S := fun w' => w'.cell? ⟨gb, 0, none⟩ = some (.string k0) ∧ w'.cell? ⟨gb, 1, none⟩ = some (.string k1)) (ds := []) #[false, false, false, false, false, false, false, false, false, false, false, false, false, false, false, false, false, false, false, false, false, false, false, false, false] (by kernel_rfl) rfl rfl ⟨y0, y1⟩ (fun hHeld => ?_)
        refine pure_ (i := 0) (N := some 12) (v := ?_) (a' := ?_) #[true, false, false, false, false, false, false, false, false, false, false, false, false, false, false, false, false, false, false, false, false, false, false, false, false] rfl rfl (by kernel_rfl) (fun _ _ _ h => h) (Or.inl ⟨by rfl, ?_⟩) ?_ ?_
        rotate_left
        · intro w'; go_simp; with_reducible rfl
        rotate_left
        · simp only [Act.put, OpenRow.s1, OpenRow.s2, OpenRow.s3, i64_w, i32_w]; rfl
        refine take_ (i := 1) (N := some 13) (v := ?_) (a' := ?_) #[true, true, false, false, false, false, false, false, false, false, false, false, false, false, false, false, false, false, false, false, false, false, false, false, false] rfl rfl (by kernel_rfl) (fun _ _ _ h => h) (Or.inl ⟨by rfl, ?_⟩) hHeld ?_ ?_
        rotate_left
        · rintro w' ⟨s0, s1⟩
          go_simp
          with_reducible rfl
        rotate_left
        · simp only [Act.put, OpenRow.s1, OpenRow.s2, OpenRow.s3, i64_w, i32_w]; rfl
        refine one_ (i := 2) (N := some 14) #[true, true, true, false, false, false, false, false, false, false, false, false, false, false, false, false, false, false, false, false, false, false, false, false, false] rfl rfl (by kernel_rfl) (by decide) (fun K hK => ?_)
        refine goes_ Try.func88 (by kernel_rfl) rfl #[.string k0] (by rfl) rfl rfl (by simp only [List.map_toArray, List.map_cons, List.map_nil] <;> rfl) ?_
        with_reducible refine (HC.out _).mono ?_
        rintro e w3 ⟨rfl, hd_⟩
        refine ⟨_, rfl, ?_⟩
        have hb_ := hd_.below
        have HB3 := Aside0.mk (below_step (below_drew1 HB1.out) hb_)
        refine hK.out _ _ ⟨(hb_.cell (World.block_lt_of_cell? _ _ (hHeld.1))).trans (hHeld.1), (hb_.cell (World.block_lt_of_cell? _ _ (hHeld.2))).trans (hHeld.2)⟩ (fun hHeld => ?_)
        clear hK K
        refine norm_ (a' := ?_) ?_ ?_
        rotate_left
        · show Act.put _ (some 14) _ = _
          simp only [Act.put, OpenRow.s1, OpenRow.s2, OpenRow.s3, i64_w, i32_w]
          rfl
        refine pure_ (i := 3) (N := some 15) (v := ?_) (a' := ?_) #[true, true, true, true, false, false, false, false, false, false, false, false, false, false, false, false, false, false, false, false, false, false, false, false, false] rfl rfl (by kernel_rfl) (fun _ _ _ h => h) (Or.inl ⟨by rfl, ?_⟩) ?_ ?_
        rotate_left
        · intro w'; go_simp; with_reducible rfl
        rotate_left
        · simp only [Act.put, OpenRow.s1, OpenRow.s2, OpenRow.s3, i64_w, i32_w]; rfl
        refine pure_ (i := 4) (N := some 16) (v := ?_) (a' := ?_) #[true, true, true, true, true, false, false, false, false, false, false, false, false, false, false, false, false, false, false, false, false, false, false, false, false] rfl rfl (by kernel_rfl) (fun _ _ _ h => h) (Or.inl ⟨by rfl, ?_⟩) ?_ ?_
        rotate_left
        · intro w'; go_simp; with_reducible rfl
        rotate_left
        · simp only [Act.put, OpenRow.s1, OpenRow.s2, OpenRow.s3, i64_w, i32_w]; rfl
        refine pure_ (i := 5) (N := some 17) (v := undef) (a' := ?_) #[true, true, true, true, true, true, false, false, false, false, false, false, false, false, false, false, false, false, false, false, false, false, false, false, false] rfl rfl (by kernel_rfl) (fun _ _ _ h => h) (Or.inr ⟨by rfl, rfl⟩) ?_ ?_
        rotate_left
        · simp only [Act.put, OpenRow.s1, OpenRow.s2, OpenRow.s3, i64_w, i32_w]; rfl
        refine pure_ (i := 6) (N := some 18) (v := undef) (a' := ?_) #[true, true, true, true, true, true, true, false, false, false, false, false, false, false, false, false, false, false, false, false, false, false, false, false, false] rfl rfl (by kernel_rfl) (fun _ _ _ h => h) (Or.inr ⟨by rfl, rfl⟩) ?_ ?_
        rotate_left
        · simp only [Act.put, OpenRow.s1, OpenRow.s2, OpenRow.s3, i64_w, i32_w]; rfl
        refine pure_ (i := 7) (N := some 19) (v := undef) (a' := ?_) #[true, true, true, true, true, true, true, true, false, false, false, false, false, false, false, false, false, false, false, false, false, false, false, false, false] rfl rfl (by kernel_rfl) (fun _ _ _ h => h) (Or.inr ⟨by rfl, rfl⟩) ?_ ?_
        rotate_left
        · simp only [Act.put, OpenRow.s1, OpenRow.s2, OpenRow.s3, i64_w, i32_w]; rfl
        refine pure_ (i := 8) (N := some 20) (v := undef) (a' := ?_) #[true, true, true, true, true, true, true, true, true, false, false, false, false, false, false, false, false, false, false, false, false, false, false, false, false] rfl rfl (by kernel_rfl) (fun _ _ _ h => h) (Or.inr ⟨by rfl, rfl⟩) ?_ ?_
        rotate_left
        · simp only [Act.put, OpenRow.s1, OpenRow.s2, OpenRow.s3, i64_w, i32_w]; rfl
        refine pure_ (i := 9) (N := some 21) (v := ?_) (a' := ?_) #[true, true, true, true, true, true, true, true, true, true, false, false, false, false, false, false, false, false, false, false, false, false, false, false, false] rfl rfl (by kernel_rfl) (fun _ _ _ h => h) (Or.inl ⟨by rfl, ?_⟩) ?_ ?_
        rotate_left
        · intro w'; go_simp; with_reducible rfl
        rotate_left
        · simp only [Act.put, OpenRow.s1, OpenRow.s2, OpenRow.s3, i64_w, i32_w]; rfl
        refine pure_ (i := 10) (N := some 22) (v := ?_) (a' := ?_) #[true, true, true, true, true, true, true, true, true, true, true, false, false, false, false, false, false, false, false, false, false, false, false, false, false] rfl rfl (by kernel_rfl) (fun _ _ _ h => h) (Or.inl ⟨by rfl, ?_⟩) ?_ ?_
        rotate_left
        · intro w'; go_simp; with_reducible rfl
        rotate_left
        · simp only [Act.put, OpenRow.s1, OpenRow.s2, OpenRow.s3, i64_w, i32_w]; rfl
        refine pure_ (i := 11) (N := some 23) (v := undef) (a' := ?_) #[true, true, true, true, true, true, true, true, true, true, true, true, false, false, false, false, false, false, false, false, false, false, false, false, false] rfl rfl (by kernel_rfl) (fun _ _ _ h => h) (Or.inr ⟨by rfl, rfl⟩) ?_ ?_
        rotate_left
        · simp only [Act.put, OpenRow.s1, OpenRow.s2, OpenRow.s3, i64_w, i32_w]; rfl
        refine pure_ (i := 12) (N := some 24) (v := undef) (a' := ?_) #[true, true, true, true, true, true, true, true, true, true, true, true, true, false, false, false, false, false, false, false, false, false, false, false, false] rfl rfl (by kernel_rfl) (fun _ _ _ h => h) (Or.inr ⟨by rfl, rfl⟩) ?_ ?_
        rotate_left
        · simp only [Act.put, OpenRow.s1, OpenRow.s2, OpenRow.s3, i64_w, i32_w]; rfl
        refine pure_ (i := 13) (N := some 25) (v := undef) (a' := ?_) #[true, true, true, true, true, true, true, true, true, true, true, true, true, true, false, false, false, false, false, false, false, false, false, false, false] rfl rfl (by kernel_rfl) (fun _ _ _ h => h) (Or.inr ⟨by rfl, rfl⟩) ?_ ?_
        rotate_left
        · simp only [Act.put, OpenRow.s1, OpenRow.s2, OpenRow.s3, i64_w, i32_w]; rfl
        refine pure_ (i := 14) (N := some 26) (v := undef) (a' := ?_) #[true, true, true, true, true, true, true, true, true, true, true, true, true, true, true, false, false, false, false, false, false, false, false, false, false] rfl rfl (by kernel_rfl) (fun _ _ _ h => h) (Or.inr ⟨by rfl, rfl⟩) ?_ ?_
        rotate_left
        · simp only [Act.put, OpenRow.s1, OpenRow.s2, OpenRow.s3, i64_w, i32_w]; rfl
        refine pure_ (i := 15) (N := some 27) (v := undef) (a' := ?_) #[true, true, true, true, true, true, true, true, true, true, true, true, true, true, true, true, false, false, false, false, false, false, false, false, false] rfl rfl (by kernel_rfl) (fun _ _ _ h => h) (Or.inr ⟨by rfl, rfl⟩) ?_ ?_
        rotate_left
        · simp only [Act.put, OpenRow.s1, OpenRow.s2, OpenRow.s3, i64_w, i32_w]; rfl
        refine pure_ (i := 16) (N := some 28) (v := undef) (a' := ?_) #[true, true, true, true, true, true, true, true, true, true, true, true, true, true, true, true, true, false, false, false, false, false, false, false, false] rfl rfl (by kernel_rfl) (fun _ _ _ h => h) (Or.inr ⟨by rfl, rfl⟩) ?_ ?_
        rotate_left
        · simp only [Act.put, OpenRow.s1, OpenRow.s2, OpenRow.s3, i64_w, i32_w]; rfl
        refine pure_ (i := 17) (N := some 29) (v := undef) (a' := ?_) #[true, true, true, true, true, true, true, true, true, true, true, true, true, true, true, true, true, true, false, false, false, false, false, false, false] rfl rfl (by kernel_rfl) (fun _ _ _ h => h) (Or.inr ⟨by rfl, rfl⟩) ?_ ?_
        rotate_left
        · simp only [Act.put, OpenRow.s1, OpenRow.s2, OpenRow.s3, i64_w, i32_w]; rfl
        refine pure_ (i := 18) (N := some 30) (v := undef) (a' := ?_) #[true, true, true, true, true, true, true, true, true, true, true, true, true, true, true, true, true, true, true, false, false, false, false, false, false] rfl rfl (by kernel_rfl) (fun _ _ _ h => h) (Or.inr ⟨by rfl, rfl⟩) ?_ ?_
        rotate_left
        · simp only [Act.put, OpenRow.s1, OpenRow.s2, OpenRow.s3, i64_w, i32_w]; rfl
        refine pure_ (i := 19) (N := some 31) (v := undef) (a' := ?_) #[true, true, true, true, true, true, true, true, true, true, true, true, true, true, true, true, true, true, true, true, false, false, false, false, false] rfl rfl (by kernel_rfl) (fun _ _ _ h => h) (Or.inr ⟨by rfl, rfl⟩) ?_ ?_
        rotate_left
        · simp only [Act.put, OpenRow.s1, OpenRow.s2, OpenRow.s3, i64_w, i32_w]; rfl
        refine pure_ (i := 20) (N := some 32) (v := undef) (a' := ?_) #[true, true, true, true, true, true, true, true, true, true, true, true, true, true, true, true, true, true, true, true, true, false, false, false, false] rfl rfl (by kernel_rfl) (fun _ _ _ h => h) (Or.inr ⟨by rfl, rfl⟩) ?_ ?_
        rotate_left
        · simp only [Act.put, OpenRow.s1, OpenRow.s2, OpenRow.s3, i64_w, i32_w]; rfl
        refine pure_ (i := 21) (N := some 33) (v := undef) (a' := ?_) #[true, true, true, true, true, true, true, true, true, true, true, true, true, true, true, true, true, true, true, true, true, true, false, false, false] rfl rfl (by kernel_rfl) (fun _ _ _ h => h) (Or.inr ⟨by rfl, rfl⟩) ?_ ?_
        rotate_left
        · simp only [Act.put, OpenRow.s1, OpenRow.s2, OpenRow.s3, i64_w, i32_w]; rfl
        refine pure_ (i := 22) (N := some 34) (v := undef) (a' := ?_) #[true, true, true, true, true, true, true, true, true, true, true, true, true, true, true, true, true, true, true, true, true, true, true, false, false] rfl rfl (by kernel_rfl) (fun _ _ _ h => h) (Or.inr ⟨by rfl, rfl⟩) ?_ ?_
        rotate_left
        · simp only [Act.put, OpenRow.s1, OpenRow.s2, OpenRow.s3, i64_w, i32_w]; rfl
        refine pure_ (i := 23) (N := some 35) (v := undef) (a' := ?_) #[true, true, true, true, true, true, true, true, true, true, true, true, true, true, true, true, true, true, true, true, true, true, true, true, false] rfl rfl (by kernel_rfl) (fun _ _ _ h => h) (Or.inr ⟨by rfl, rfl⟩) ?_ ?_
        rotate_left
        · simp only [Act.put, OpenRow.s1, OpenRow.s2, OpenRow.s3, i64_w, i32_w]; rfl
        refine pure_ (i := 24) (N := some 36) (v := ?_) (a' := ?_) #[true, true, true, true, true, true, true, true, true, true, true, true, true, true, true, true, true, true, true, true, true, true, true, true, true] rfl rfl (by kernel_rfl) (fun _ _ _ h => h) (Or.inl ⟨by rfl, ?_⟩) ?_ ?_
        rotate_left
        · intro w'; go_simp; with_reducible rfl
        rotate_left
        · simp only [Act.put, OpenRow.s1, OpenRow.s2, OpenRow.s3, i64_w, i32_w]; rfl
        refine done_ (by kernel_rfl) ?_

        go_wp2
        go_ret
        exact ⟨by rw [← HRQ.out, HNA.out, Bool.and_false]; rfl, HB3.out⟩
    · have hltz : ¬ (kk : Int) < (l0.length : Int) := by omega
      obtain rfl : kk = l0.length := by omega
      have HAL := Aside0.mk (spec_l03Store.all_of HJ.out)
      go_wp2
      go_ret
      exact ⟨by rw [← HRQ.out, HAL.out, Bool.and_true]; rfl, HB.out⟩


/-! ### impl_Change_63: function 63 -/
def impl_Change_63.f (l0 : List (S88)) : Option (Bool) := some (decide ((l0.length : Int) ≤ 4096))
set_option maxHeartbeats 8000000 in
set_option maxRecDepth 100000 in
theorem impl_Change_63.calls (A0 : Option Addr) (c0 : Nat) (l0 : List (S88)) (r : Bool) (w : World) (hr0 : Kd.C k88 w A0 l0.length l0) (hc0 : l0.length ≤ c0) (h : impl_Change_63.f l0 = some r) :
    Calls Try.prog 63 #[.slice A0 l0.length c0] w fun e w' => e = .returned (.bool r) ∧ Drawn0 w w' := by
  have HR0 := Aside0.mk hr0
  have HC0 := Aside0.mk hc0
  clear hr0 hc0
  have H : (some (decide ((l0.length : Int) ≤ 4096))) = some r := h
  clear h
  obtain rfl := Option.some.inj H
  go_enter Try.func63, Try.ntmps63
  go_wp2
  go_ret
  exact ⟨by first | rfl | (simp; done) | (simp [*]; done), by repeat (first | exact Drawn0.refl _ | apply Drawn0.step)⟩

end Go.Proofs.Ythojdfndgfpkpaa.XA
