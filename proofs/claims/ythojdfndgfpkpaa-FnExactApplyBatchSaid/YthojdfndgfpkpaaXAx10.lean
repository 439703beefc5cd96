-- Written by a program of this session (xp.py over the kit's printer, with functions proved by hand). Lean checks it.
import Derived.Test.YthojdfndgfpkpaaXAx0
import Derived.Test.YthojdfndgfpkpaaXAx6
import Derived.Test.YthojdfndgfpkpaaXAx7
import Derived.Test.YthojdfndgfpkpaaXAx8
import Derived.Test.YthojdfndgfpkpaaXAx9
namespace Go.Proofs.Ythojdfndgfpkpaa.XA
open Go.Proofs.Ythojdfndgfpkpaa.Open Go.Proofs.Ythojdfndgfpkpaa.OpenWin Go.Proofs.Ythojdfndgfpkpaa.OpenRow Go.Proofs.Ythojdfndgfpkpaa.OpenFlat Go.Proofs.Ythojdfndgfpkpaa.OpenOrd
open Go.RowKit Go.Proofs.YthojdfndgfpkpaaW.PrintWords Go.Proofs.YthojdfndgfpkpaaW.PrintLast Go.Proofs.YthojdfndgfpkpaaW.PrintMore
attribute [local go_sem] max2_int min2_int max_two min_two max_three min_three max_four min_four   -- for this text's walks alone
set_option linter.unusedVariables false
set_option linter.unusedSimpArgs false

/-! ### impl_apply: function 84 -/
abbrev impl_apply.Sorted (xs : List S74) : Prop := xs.Pairwise fun x y => spec_l03Apply.lt x.f0 y.f0 = true
theorem impl_apply.sorted_get {xs : List S74} (h : impl_apply.Sorted xs) (a b : Nat) (hab : a < b) (hb : b < xs.length) : spec_l03Apply.lt (xs.getD a z74).f0 (xs.getD b z74).f0 = true := by
  have := List.pairwise_iff_getElem.1 h a b (by omega) hb hab
  rw [List.getD_eq_getElem?_getD, List.getD_eq_getElem?_getD, List.getElem?_eq_getElem hb, List.getElem?_eq_getElem (by omega)]
  exact this
theorem impl_apply.mono {xs : List S74} (h : impl_apply.Sorted xs) (key : ByteArray) (a b : Nat) (hab : a ≤ b) (hb : b < xs.length) (hk : spec_l03Apply.lt (xs.getD b z74).f0 key = true) : spec_l03Apply.lt (xs.getD a z74).f0 key = true := by
  by_cases e : a = b
  · rw [e]; exact hk
  · exact Ythojdfndgfpkpaa.OpenOrd.less_trans _ _ _ (impl_apply.sorted_get h a b (by omega) hb) hk
theorem impl_apply.rest_above {xs : List S74} (h : impl_apply.Sorted xs) (key : ByteArray) : ∀ y ∈ spec_l03Apply.rest xs key, spec_l03Apply.lt key y.f0 = true := by
  intro y hy
  have hp : spec_l03Apply.pos xs key ≤ xs.length := Ythojdfndgfpkpaa.OpenOrd.ahead_le _ _
  have key1 : ∀ j, spec_l03Apply.pos xs key < j → j < xs.length → (xs.getD (spec_l03Apply.pos xs key) z74).f0.data.toList = key.data.toList → spec_l03Apply.lt key (xs.getD j z74).f0 = true := fun j h1 h2 h3 => by
    have := impl_apply.sorted_get h _ j h1 h2
    unfold spec_l03Apply.lt at this ⊢
    rw [h3] at this
    exact this
  unfold spec_l03Apply.rest at hy
  by_cases c : spec_l03Apply.hit xs key = true
  · rw [if_pos c] at hy
    simp only [spec_l03Apply.hit, Bool.and_eq_true, decide_eq_true_eq] at c
    obtain ⟨j, hj, rfl⟩ := List.getElem_of_mem hy
    rw [List.length_drop] at hj
    have := key1 (spec_l03Apply.pos xs key + 1 + j) (by omega) (by omega) c.2
    rw [List.getElem_drop]
    rwa [List.getD_eq_getElem?_getD, List.getElem?_eq_getElem (by omega)] at this
  · rw [if_neg c] at hy
    obtain ⟨j, hj, rfl⟩ := List.getElem_of_mem hy
    rw [List.length_drop] at hj
    have hlt : spec_l03Apply.pos xs key < xs.length := by omega
    have hne : (xs.getD (spec_l03Apply.pos xs key) z74).f0.data.toList ≠ key.data.toList := fun he => c (by unfold spec_l03Apply.hit; rw [decide_eq_true hlt, decide_eq_true he]; rfl)
    have h0 := Ythojdfndgfpkpaa.OpenOrd.ahead_at (fun x : S74 => spec_l03Apply.lt x.f0 key) z74 xs hlt
    have h1 : spec_l03Apply.lt key (xs.getD (spec_l03Apply.pos xs key) z74).f0 = true := Ythojdfndgfpkpaa.OpenOrd.less_total _ _ h0 hne
    have h2 : spec_l03Apply.lt key (xs.getD (spec_l03Apply.pos xs key + j) z74).f0 = true := by
      by_cases e : j = 0
      · rw [e]; exact h1
      · exact Ythojdfndgfpkpaa.OpenOrd.less_trans _ _ _ h1 (impl_apply.sorted_get h _ _ (by omega) (by omega))
    rw [List.getElem_drop]
    rwa [List.getD_eq_getElem?_getD, List.getElem?_eq_getElem (by omega)] at h2
theorem impl_apply.take_below (xs : List S74) (key : ByteArray) : ∀ x ∈ xs.take (spec_l03Apply.pos xs key), spec_l03Apply.lt x.f0 key = true := by
  intro x hx
  have hp : spec_l03Apply.pos xs key ≤ xs.length := Ythojdfndgfpkpaa.OpenOrd.ahead_le _ _
  obtain ⟨j, hj, rfl⟩ := List.getElem_of_mem hx
  rw [List.length_take] at hj
  have := Ythojdfndgfpkpaa.OpenOrd.ahead_lt (fun x : S74 => spec_l03Apply.lt x.f0 key) z74 xs j (by show j < spec_l03Apply.pos xs key; omega)
  rw [List.getElem_take]
  rwa [List.getD_eq_getElem?_getD, List.getElem?_eq_getElem (by omega)] at this
theorem impl_apply.step_sorted {xs : List S74} (h : impl_apply.Sorted xs) (c : S88) : impl_apply.Sorted (spec_l03Apply.step xs c) := by
  have hr : impl_apply.Sorted (spec_l03Apply.rest xs c.f0) := by
    unfold spec_l03Apply.rest
    split
    · exact h.sublist (List.drop_sublist _ _)
    · exact h.sublist (List.drop_sublist _ _)
  have ht : impl_apply.Sorted (xs.take (spec_l03Apply.pos xs c.f0)) := h.sublist (List.take_sublist _ _)
  have ha := impl_apply.rest_above h c.f0
  have hb := impl_apply.take_below xs c.f0
  unfold spec_l03Apply.step
  split
  · exact List.pairwise_append.2 ⟨ht, hr, fun x hx y hy => Ythojdfndgfpkpaa.OpenOrd.less_trans _ _ _ (hb x hx) (ha y hy)⟩
  · refine List.pairwise_append.2 ⟨ht, List.pairwise_cons.2 ⟨fun y hy => ha y hy, hr⟩, fun x hx y hy => ?_⟩
    rcases List.mem_cons.1 hy with rfl | hy
    · exact hb x hx
    · exact Ythojdfndgfpkpaa.OpenOrd.less_trans _ _ _ (hb x hx) (ha y hy)
theorem impl_apply.applied_sorted {xs : List S74} (h : impl_apply.Sorted xs) (cs : List S88) : impl_apply.Sorted (spec_l03Apply.applied xs cs) := by
  induction cs generalizing xs with
  | nil => exact h
  | cons c cs ih => exact ih (impl_apply.step_sorted h c)
def impl_apply.f (l0 : List (S74)) (l1 : List (S88)) : Option ((List (S74)) × Bool) := if l0.length ≤ 4096 ∧ l1.length ≤ 4096 ∧ impl_apply.Sorted l0 then some (spec_l03Apply.applied l0 l1, decide ((spec_l03Apply.applied l0 l1).length ≤ 100)) else none
/-- the search -/
theorem impl_apply.alloc_at (w : World) (o : Obj) : (w.alloc o).heap[w.heap.size]? = some o := by
  show (w.heap.push o)[w.heap.size]? = _
  simp
theorem impl_apply.search (A : Option Addr) (c : Nat) (xs : List S74) (key : ByteArray) (w : World) (hC : Kd.C k74 w A xs.length xs) (hn : xs.length ≤ 100000) (hs : impl_apply.Sorted xs) :
    Calls Try.prog 108 #[.slice A xs.length c, .string key, .func (.func 109) #[] #[]] w fun e w' => e = .returned (.tuple #[.int .i64 (spec_l03Apply.pos xs key : Nat), .bool (spec_l03Apply.hit xs key)]) ∧ Below w.heap.size w w' := by
  have hneg : ∀ a : S74, Lib.compareBytes a.f0.data.toList key.data.toList < 0 ↔ spec_l03Apply.lt a.f0 key = true := fun a => Ythojdfndgfpkpaa.OpenOrd.cmp_neg _ _
  refine (impl_Pair_string.calls A c xs key w hC hn (fun a b hab hb h => (hneg _).2 (impl_apply.mono hs key a b hab hb ((hneg _).1 h)))).mono ?_
  rintro e w' ⟨r, rfl, hr, h1, h2, hb⟩
  have hp : spec_l03Apply.pos xs key = r := Ythojdfndgfpkpaa.OpenOrd.ahead_is (fun x : S74 => spec_l03Apply.lt x.f0 key) z74 xs r hr (fun j hj => (hneg _).1 (h1 j hj)) (fun hlt => by
    cases hc : spec_l03Apply.lt (xs.getD r z74).f0 key with
    | false => rfl
    | true => exact absurd ((hneg _).2 hc) (h2 r (Nat.le_refl _) hlt))
  refine ⟨?_, hb⟩
  unfold spec_l03Apply.hit
  rw [hp]
  congr 4
  simp only [Ythojdfndgfpkpaa.OpenOrd.cmp_zero]
set_option maxHeartbeats 8000000 in
set_option maxRecDepth 100000 in
theorem impl_apply.calls (A0 : Option Addr) (c0 : Nat) (l0 : List (S74)) (A1 : Option Addr) (c1 : Nat) (l1 : List (S88)) (r1 : List (S74)) (r2 : Bool) (w : World) (hr0 : Kd.C k74 w A0 l0.length l0) (hc0 : l0.length ≤ c0) (hr1 : Kd.C k88 w A1 l1.length l1) (hc1 : l1.length ≤ c1) (h : impl_apply.f l0 l1 = some (r1, r2)) :
    Calls Try.prog 84 #[.slice A0 l0.length c0, .slice A1 l1.length c1] w fun e w' => ∃ v0_ : Value, e = .returned (.tuple #[v0_, .bool r2]) ∧ Kd.R k74 74 w' w.heap.size (fun _ => True) v0_ r1 ∧ Below w.heap.size w w' := by
  unfold impl_apply.f at h
  have hs : l0.length ≤ 4096 ∧ l1.length ≤ 4096 ∧ impl_apply.Sorted l0 := Classical.byContradiction fun hs => by rw [if_neg hs] at h; cases h
  rw [if_pos hs] at h
  injection h with h
  injection h with e1 e2
  subst e1 e2
  obtain ⟨h0, h1, hso⟩ := hs
  have hu := Try.underlying74
  have hu2 := Try.underlying88
  have hlen1 : l1.length ≤ 9223372036854775807 := by omega
  have HSO := Aside0.mk hso
  have HC1 := Aside0.mk hr1
  have HK := Aside0.mk (impl_Pair_54.calls A0 c0 l0 l0 w hr0 hc0 (by unfold impl_Pair_54.f; rw [if_pos (by omega)]))
  clear hr0 hr1 hso
  go_enter Try.func84, Try.ntmps84
  go_wp2_with ((with_reducible refine (HK.out).mono ?_); rintro e w2 ⟨v2, rfl, ho2, hb2⟩; have HO2 := Aside0.mk ho2; have HB2 := Aside0.mk hb2; clear ho2 hb2)
  go_loopg [6, 15] l1.length (fun gg s6 s15 wr => ∃ kk : Nat, kk ≤ l1.length ∧ l1.length - kk ≤ gg ∧ s15 = .int .i64 kk ∧ Aside0 (Kd.R k74 74 wr w.heap.size (fun _ => True) s6 (spec_l03Apply.applied l0 (l1.take kk))) ∧ Aside0 (Below w.heap.size w wr))
  case atStart => exact ⟨0, Nat.zero_le _, by omega, rfl, ⟨HO2.out⟩, HB2⟩
  case round =>
    obtain ⟨kk, hkk, hg, rfl, HO, HB⟩ := hrel
    by_cases hlt : kk < l1.length
    · have hltz : (kk : Int) < (l1.length : Int) := by omega
      have HCr := Aside0.mk (Kd.C_below HC1.out HB.out)
      obtain ⟨ad, e1, hx0, hx1, hx2⟩ := at_T88 HCr.out (kk : Int) (by omega) (by omega)
      cases e1
      have hrd : rd_T88 l1 (kk : Int) = l1.getD kk z88 := by rw [rd_T88, Int.toNat_natCast]
      simp only [Int.toNat_natCast, hrd] at hx0 hx1 hx2
      have HST := Aside0.mk (spec_l03Apply.applied_succ l0 l1 kk hlt)
      have HLN := Aside0.mk (show (spec_l03Apply.applied l0 (l1.take kk)).length ≤ 100000 by have := spec_l03Apply.applied_length l0 (l1.take kk); rw [List.length_take] at this; omega)
      have HSR := Aside0.mk (impl_apply.applied_sorted HSO.out (l1.take kk))
      generalize l1.getD kk z88 = x at *
      generalize spec_l03Apply.applied l0 (l1.take kk) = xs at *
      clear hrd
      obtain ⟨x0, x1, x2⟩ := x
      obtain ⟨A4, c4, rfl⟩ := Kd.R_slice HO.out
      obtain ⟨p, hpos⟩ : ∃ p, spec_l03Apply.pos xs x0 = p := ⟨_, rfl⟩
      cases x2 with
      | true =>
        cases hhit : spec_l03Apply.hit xs x0 with
        | true =>
          have HS := Aside0.mk (show Calls Try.prog 108 #[.slice A4 xs.length c4, .string x0, .func (.func 109) #[] #[]] (wr.alloc (.cells #[.string x0, .string x1, .bool true] 88)) (fun e w' => e = .returned (.tuple #[.int .i64 (p : Int), .bool true]) ∧ Below ((wr.alloc (.cells #[.string x0, .string x1, .bool true] 88))).heap.size (wr.alloc (.cells #[.string x0, .string x1, .bool true] 88)) w') by have := impl_apply.search A4 c4 xs x0 (wr.alloc (.cells #[.string x0, .string x1, .bool true] 88)) (Kd.R_reads' (Kd.R_alloc HO.out (.cells #[.string x0, .string x1, .bool true] 88))).2.2 HLN.out HSR.out; rw [hpos, hhit] at this; exact this)
          have HBb := Aside0.mk (show Below w.heap.size w (wr.alloc (.cells #[.string x0, .string x1, .bool true] 88)) from below_alloc HB.out _)
          have HOb := Aside0.mk (show Kd.R k74 74 (wr.alloc (.cells #[.string x0, .string x1, .bool true] 88)) w.heap.size (fun k => k ≠ wr.heap.size) (.slice A4 xs.length c4) xs from Kd.R_alloc (Kd.R_mono (Kd.R_elderB HO.out wr.heap.size (Nat.le_refl _)) (fun _ hk => hk.2)) _)
          have z0 : ((wr.alloc (.cells #[.string x0, .string x1, .bool true] 88))).cell? ⟨wr.heap.size, 0, none⟩ = some (.string x0) := by go_simp
          have z1 : ((wr.alloc (.cells #[.string x0, .string x1, .bool true] 88))).cell? ⟨wr.heap.size, 1, none⟩ = some (.string x1) := by go_simp
          have z2 : ((wr.alloc (.cells #[.string x0, .string x1, .bool true] 88))).cell? ⟨wr.heap.size, 2, none⟩ = some (.bool true) := by go_simp
          have hpl : p ≤ xs.length := by rw [← hpos]; exact Ythojdfndgfpkpaa.OpenOrd.ahead_le _ _
          have HP := Aside0.mk (show p < xs.length by have := hhit; unfold spec_l03Apply.hit at this; rw [hpos, Bool.and_eq_true, decide_eq_true_eq] at this; exact this.1)
          have HI := Aside0.mk (show p ≤ (xs.eraseIdx p).length by have := HP.out; rw [List.length_eraseIdx_of_lt this]; omega)
          have HLE := Aside0.mk (show (xs.eraseIdx p).length ≤ 100000 by have := HP.out; have := HLN.out; rw [List.length_eraseIdx_of_lt (by assumption)]; omega)
          have ht_ : (xs.eraseIdx p).take p = xs.take p := by rw [List.eraseIdx_eq_take_drop_succ, List.take_append_of_le_length (by rw [List.length_take]; omega), List.take_take, Nat.min_self]
          have hd_ : (xs.eraseIdx p).drop p = xs.drop (p + 1) := by rw [List.eraseIdx_eq_take_drop_succ, List.drop_append_of_le_length (by rw [List.length_take]; omega), List.drop_of_length_le (by rw [List.length_take]; omega), List.nil_append]
          have HFIN := Aside0.mk (show spec_l03Apply.step xs (⟨x0, x1, true⟩ : S88) = xs.eraseIdx p by rw [spec_l03Apply.step, if_pos rfl, spec_l03Apply.rest, if_pos hhit, hpos, List.eraseIdx_eq_take_drop_succ])
          clear ht_ hd_
          have hpb : (p : Int) + 1 ≤ 1000000 := by have := HLN.out; omega
          have hw1 : IntKind.i64.wrap ((p : Int) + 1) = (p : Int) + 1 := by rw [IntKind.wrap_i64]; omega
          have hw2 : IntKind.i64.wrap ((kk : Int) + 1) = (kk : Int) + 1 := by rw [IntKind.wrap_i64]; omega
          clear hhit hpos hpl
          go_wp2_with (first | ((with_reducible refine (HS.out).mono ?_); rintro e w3 ⟨rfl, hb⟩; have HB3 := Aside0.mk (below_step HBb.out hb); have HO3 := Aside0.mk (Kd.R_below HOb.out hb); have y0 := (hb.cell (p := ⟨wr.heap.size, 0, none⟩) (by simp)).trans z0; have y1 := (hb.cell (p := ⟨wr.heap.size, 1, none⟩) (by simp)).trans z1; have y2 := (hb.cell (p := ⟨wr.heap.size, 2, none⟩) (by simp)).trans z2; clear hb) | ((with_reducible refine (impl_Pair_111.calls _ xs p w w3 HB3.out (Kd.R_mono HO3.out (fun _ _ => trivial)) HP.out).mono ?_); rintro e w4 ⟨v4, rfl, ho4, hb4, hg4⟩; have hne4 : some wr.heap.size ≠ (Value.slice A4 xs.length c4).ownBlock := (fun he => HO3.out.1 _ he.symm rfl); have u0 := cell_grown hg4 y0 hne4; have u1 := cell_grown hg4 y1 hne4; have u2 := cell_grown hg4 y2 hne4; have HB4 := Aside0.mk hb4; have HO4 := Aside0.mk ho4; clear ho4 hb4 hg4 hne4))
          go_roundg (l1.length - (kk + 1))
          case measure => omega
          case rel => exact ⟨kk + 1, by omega, by omega, by go_num, ⟨by rw [HST.out, HFIN.out]; exact Kd.R_mono HO4.out (fun _ _ => trivial)⟩, HB4⟩
        | false =>
          have HS := Aside0.mk (show Calls Try.prog 108 #[.slice A4 xs.length c4, .string x0, .func (.func 109) #[] #[]] (wr.alloc (.cells #[.string x0, .string x1, .bool true] 88)) (fun e w' => e = .returned (.tuple #[.int .i64 (p : Int), .bool false]) ∧ Below ((wr.alloc (.cells #[.string x0, .string x1, .bool true] 88))).heap.size (wr.alloc (.cells #[.string x0, .string x1, .bool true] 88)) w') by have := impl_apply.search A4 c4 xs x0 (wr.alloc (.cells #[.string x0, .string x1, .bool true] 88)) (Kd.R_reads' (Kd.R_alloc HO.out (.cells #[.string x0, .string x1, .bool true] 88))).2.2 HLN.out HSR.out; rw [hpos, hhit] at this; exact this)
          have HBb := Aside0.mk (show Below w.heap.size w (wr.alloc (.cells #[.string x0, .string x1, .bool true] 88)) from below_alloc HB.out _)
          have HOb := Aside0.mk (show Kd.R k74 74 (wr.alloc (.cells #[.string x0, .string x1, .bool true] 88)) w.heap.size (fun k => k ≠ wr.heap.size) (.slice A4 xs.length c4) xs from Kd.R_alloc (Kd.R_mono (Kd.R_elderB HO.out wr.heap.size (Nat.le_refl _)) (fun _ hk => hk.2)) _)
          have z0 : ((wr.alloc (.cells #[.string x0, .string x1, .bool true] 88))).cell? ⟨wr.heap.size, 0, none⟩ = some (.string x0) := by go_simp
          have z1 : ((wr.alloc (.cells #[.string x0, .string x1, .bool true] 88))).cell? ⟨wr.heap.size, 1, none⟩ = some (.string x1) := by go_simp
          have z2 : ((wr.alloc (.cells #[.string x0, .string x1, .bool true] 88))).cell? ⟨wr.heap.size, 2, none⟩ = some (.bool true) := by go_simp
          have hpl : p ≤ xs.length := by rw [← hpos]; exact Ythojdfndgfpkpaa.OpenOrd.ahead_le _ _
          have HI := Aside0.mk hpl
          have HLE := HLN
          have HFIN := Aside0.mk (show spec_l03Apply.step xs (⟨x0, x1, true⟩ : S88) = xs by rw [spec_l03Apply.step, if_pos rfl, spec_l03Apply.rest, if_neg (by rw [hhit]; simp), hpos, List.take_append_drop])
          have hpb : (p : Int) + 1 ≤ 1000000 := by have := HLN.out; omega
          have hw1 : IntKind.i64.wrap ((p : Int) + 1) = (p : Int) + 1 := by rw [IntKind.wrap_i64]; omega
          have hw2 : IntKind.i64.wrap ((kk : Int) + 1) = (kk : Int) + 1 := by rw [IntKind.wrap_i64]; omega
          clear hhit hpos hpl
          go_wp2_with (first | ((with_reducible refine (HS.out).mono ?_); rintro e w3 ⟨rfl, hb⟩; have HB3 := Aside0.mk (below_step HBb.out hb); have HO3 := Aside0.mk (Kd.R_below HOb.out hb); have y0 := (hb.cell (p := ⟨wr.heap.size, 0, none⟩) (by simp)).trans z0; have y1 := (hb.cell (p := ⟨wr.heap.size, 1, none⟩) (by simp)).trans z1; have y2 := (hb.cell (p := ⟨wr.heap.size, 2, none⟩) (by simp)).trans z2; clear hb))
          go_roundg (l1.length - (kk + 1))
          case measure => omega
          case rel => exact ⟨kk + 1, by omega, by omega, by go_num, ⟨by rw [HST.out, HFIN.out]; exact Kd.R_mono HO3.out (fun _ _ => trivial)⟩, HB3⟩
      | false =>
        cases hhit : spec_l03Apply.hit xs x0 with
        | true =>
          have HS := Aside0.mk (show Calls Try.prog 108 #[.slice A4 xs.length c4, .string x0, .func (.func 109) #[] #[]] (wr.alloc (.cells #[.string x0, .string x1, .bool false] 88)) (fun e w' => e = .returned (.tuple #[.int .i64 (p : Int), .bool true]) ∧ Below ((wr.alloc (.cells #[.string x0, .string x1, .bool false] 88))).heap.size (wr.alloc (.cells #[.string x0, .string x1, .bool false] 88)) w') by have := impl_apply.search A4 c4 xs x0 (wr.alloc (.cells #[.string x0, .string x1, .bool false] 88)) (Kd.R_reads' (Kd.R_alloc HO.out (.cells #[.string x0, .string x1, .bool false] 88))).2.2 HLN.out HSR.out; rw [hpos, hhit] at this; exact this)
          have HBb := Aside0.mk (show Below w.heap.size w (wr.alloc (.cells #[.string x0, .string x1, .bool false] 88)) from below_alloc HB.out _)
          have HOb := Aside0.mk (show Kd.R k74 74 (wr.alloc (.cells #[.string x0, .string x1, .bool false] 88)) w.heap.size (fun k => k ≠ wr.heap.size) (.slice A4 xs.length c4) xs from Kd.R_alloc (Kd.R_mono (Kd.R_elderB HO.out wr.heap.size (Nat.le_refl _)) (fun _ hk => hk.2)) _)
          have z0 : ((wr.alloc (.cells #[.string x0, .string x1, .bool false] 88))).cell? ⟨wr.heap.size, 0, none⟩ = some (.string x0) := by go_simp
          have z1 : ((wr.alloc (.cells #[.string x0, .string x1, .bool false] 88))).cell? ⟨wr.heap.size, 1, none⟩ = some (.string x1) := by go_simp
          have z2 : ((wr.alloc (.cells #[.string x0, .string x1, .bool false] 88))).cell? ⟨wr.heap.size, 2, none⟩ = some (.bool false) := by go_simp
          have hpl : p ≤ xs.length := by rw [← hpos]; exact Ythojdfndgfpkpaa.OpenOrd.ahead_le _ _
          have HP := Aside0.mk (show p < xs.length by have := hhit; unfold spec_l03Apply.hit at this; rw [hpos, Bool.and_eq_true, decide_eq_true_eq] at this; exact this.1)
          have HI := Aside0.mk (show p ≤ (xs.eraseIdx p).length by have := HP.out; rw [List.length_eraseIdx_of_lt this]; omega)
          have HLE := Aside0.mk (show (xs.eraseIdx p).length ≤ 100000 by have := HP.out; have := HLN.out; rw [List.length_eraseIdx_of_lt (by assumption)]; omega)
          have ht_ : (xs.eraseIdx p).take p = xs.take p := by rw [List.eraseIdx_eq_take_drop_succ, List.take_append_of_le_length (by rw [List.length_take]; omega), List.take_take, Nat.min_self]
          have hd_ : (xs.eraseIdx p).drop p = xs.drop (p + 1) := by rw [List.eraseIdx_eq_take_drop_succ, List.drop_append_of_le_length (by rw [List.length_take]; omega), List.drop_of_length_le (by rw [List.length_take]; omega), List.nil_append]
          have HFIN := Aside0.mk (show spec_l03Apply.step xs (⟨x0, x1, false⟩ : S88) = (xs.eraseIdx p).take p ++ (⟨x0, x1⟩ : S74) :: (xs.eraseIdx p).drop p by rw [spec_l03Apply.step, if_neg (by simp), spec_l03Apply.rest, if_pos hhit, hpos, ht_, hd_])
          clear ht_ hd_
          have hpb : (p : Int) + 1 ≤ 1000000 := by have := HLN.out; omega
          have hw1 : IntKind.i64.wrap ((p : Int) + 1) = (p : Int) + 1 := by rw [IntKind.wrap_i64]; omega
          have hw2 : IntKind.i64.wrap ((kk : Int) + 1) = (kk : Int) + 1 := by rw [IntKind.wrap_i64]; omega
          clear hhit hpos hpl
          go_wp2_with (first | ((with_reducible refine (HS.out).mono ?_); rintro e w3 ⟨rfl, hb⟩; have HB3 := Aside0.mk (below_step HBb.out hb); have HO3 := Aside0.mk (Kd.R_below HOb.out hb); have y0 := (hb.cell (p := ⟨wr.heap.size, 0, none⟩) (by simp)).trans z0; have y1 := (hb.cell (p := ⟨wr.heap.size, 1, none⟩) (by simp)).trans z1; have y2 := (hb.cell (p := ⟨wr.heap.size, 2, none⟩) (by simp)).trans z2; clear hb) | ((with_reducible refine (impl_Pair_111.calls _ xs p w w3 HB3.out (Kd.R_mono HO3.out (fun _ _ => trivial)) HP.out).mono ?_); rintro e w4 ⟨v4, rfl, ho4, hb4, hg4⟩; have hne4 : some wr.heap.size ≠ (Value.slice A4 xs.length c4).ownBlock := (fun he => HO3.out.1 _ he.symm rfl); have u0 := cell_grown hg4 y0 hne4; have u1 := cell_grown hg4 y1 hne4; have u2 := cell_grown hg4 y2 hne4; have HB4 := Aside0.mk hb4; have HO4 := Aside0.mk ho4; clear ho4 hb4 hg4 hne4) | ((with_reducible refine (impl_Pair_112.calls _ (xs.eraseIdx p) ⟨x0, x1⟩ p w4.heap.size w (w4.alloc (.cells #[.string x0, .string x1] 74)) (below_alloc HB4.out _) (Kd.R_mono (Kd.R_alloc (Kd.R_elderB HO4.out w4.heap.size (Nat.le_refl _)) _) (fun _ hk => hk.2)) HI.out HLE.out (impl_apply.alloc_at _ _)).mono ?_); rintro e w5 ⟨v5, rfl, ho5, hb5⟩; have HB5 := Aside0.mk hb5; have HO5 := Aside0.mk ho5; clear ho5 hb5))
          go_roundg (l1.length - (kk + 1))
          case measure => omega
          case rel => exact ⟨kk + 1, by omega, by omega, by go_num, ⟨by rw [HST.out, HFIN.out]; exact Kd.R_mono HO5.out (fun _ _ => trivial)⟩, HB5⟩
        | false =>
          have HS := Aside0.mk (show Calls Try.prog 108 #[.slice A4 xs.length c4, .string x0, .func (.func 109) #[] #[]] (wr.alloc (.cells #[.string x0, .string x1, .bool false] 88)) (fun e w' => e = .returned (.tuple #[.int .i64 (p : Int), .bool false]) ∧ Below ((wr.alloc (.cells #[.string x0, .string x1, .bool false] 88))).heap.size (wr.alloc (.cells #[.string x0, .string x1, .bool false] 88)) w') by have := impl_apply.search A4 c4 xs x0 (wr.alloc (.cells #[.string x0, .string x1, .bool false] 88)) (Kd.R_reads' (Kd.R_alloc HO.out (.cells #[.string x0, .string x1, .bool false] 88))).2.2 HLN.out HSR.out; rw [hpos, hhit] at this; exact this)
          have HBb := Aside0.mk (show Below w.heap.size w (wr.alloc (.cells #[.string x0, .string x1, .bool false] 88)) from below_alloc HB.out _)
          have HOb := Aside0.mk (show Kd.R k74 74 (wr.alloc (.cells #[.string x0, .string x1, .bool false] 88)) w.heap.size (fun k => k ≠ wr.heap.size) (.slice A4 xs.length c4) xs from Kd.R_alloc (Kd.R_mono (Kd.R_elderB HO.out wr.heap.size (Nat.le_refl _)) (fun _ hk => hk.2)) _)
          have z0 : ((wr.alloc (.cells #[.string x0, .string x1, .bool false] 88))).cell? ⟨wr.heap.size, 0, none⟩ = some (.string x0) := by go_simp
          have z1 : ((wr.alloc (.cells #[.string x0, .string x1, .bool false] 88))).cell? ⟨wr.heap.size, 1, none⟩ = some (.string x1) := by go_simp
          have z2 : ((wr.alloc (.cells #[.string x0, .string x1, .bool false] 88))).cell? ⟨wr.heap.size, 2, none⟩ = some (.bool false) := by go_simp
          have hpl : p ≤ xs.length := by rw [← hpos]; exact Ythojdfndgfpkpaa.OpenOrd.ahead_le _ _
          have HI := Aside0.mk hpl
          have HLE := HLN
          have HFIN := Aside0.mk (show spec_l03Apply.step xs (⟨x0, x1, false⟩ : S88) = xs.take p ++ (⟨x0, x1⟩ : S74) :: xs.drop p by rw [spec_l03Apply.step, if_neg (by simp), spec_l03Apply.rest, if_neg (by rw [hhit]; simp), hpos])
          have hpb : (p : Int) + 1 ≤ 1000000 := by have := HLN.out; omega
          have hw1 : IntKind.i64.wrap ((p : Int) + 1) = (p : Int) + 1 := by rw [IntKind.wrap_i64]; omega
          have hw2 : IntKind.i64.wrap ((kk : Int) + 1) = (kk : Int) + 1 := by rw [IntKind.wrap_i64]; omega
          clear hhit hpos hpl
          go_wp2_with (first | ((with_reducible refine (HS.out).mono ?_); rintro e w3 ⟨rfl, hb⟩; have HB3 := Aside0.mk (below_step HBb.out hb); have HO3 := Aside0.mk (Kd.R_below HOb.out hb); have y0 := (hb.cell (p := ⟨wr.heap.size, 0, none⟩) (by simp)).trans z0; have y1 := (hb.cell (p := ⟨wr.heap.size, 1, none⟩) (by simp)).trans z1; have y2 := (hb.cell (p := ⟨wr.heap.size, 2, none⟩) (by simp)).trans z2; clear hb) | ((with_reducible refine (impl_Pair_112.calls _ xs ⟨x0, x1⟩ p w3.heap.size w (w3.alloc (.cells #[.string x0, .string x1] 74)) (below_alloc HB3.out _) (Kd.R_mono (Kd.R_alloc (Kd.R_elderB HO3.out w3.heap.size (Nat.le_refl _)) _) (fun _ hk => hk.2)) HI.out HLE.out (impl_apply.alloc_at _ _)).mono ?_); rintro e w5 ⟨v5, rfl, ho5, hb5⟩; have HB5 := Aside0.mk hb5; have HO5 := Aside0.mk ho5; clear ho5 hb5))
          go_roundg (l1.length - (kk + 1))
          case measure => omega
          case rel => exact ⟨kk + 1, by omega, by omega, by go_num, ⟨by rw [HST.out, HFIN.out]; exact Kd.R_mono HO5.out (fun _ _ => trivial)⟩, HB5⟩
    · have hltz : ¬ (kk : Int) < (l1.length : Int) := by omega
      obtain rfl : kk = l1.length := by omega
      have HO3 := HO
      rw [List.take_length] at HO3
      clear HO
      obtain ⟨A4, c4, rfl⟩ := Kd.R_slice HO3.out
      go_wp2
      go_ret2
      refine ⟨_, ?_, HO3.out, HB.out⟩
      show Ending.returned (.tuple #[_, .bool (decide (((spec_l03Apply.applied l0 l1).length : Int) ≤ 100))]) = _
      rw [show decide (((spec_l03Apply.applied l0 l1).length : Int) ≤ 100) = decide ((spec_l03Apply.applied l0 l1).length ≤ 100) from by congr 1; exact propext (by omega)]
      rfl


/-! ### impl_ApplyBatch: function 44 -/
mutual
def impl_ApplyBatch.j0 : Nat → List (S74) → List (S88) → Bool → Option ((List (S74)) × Int)
  | 0, _, _, _ => none
  | k + 1, x0, x1, x8 => if x8 = true then (some (([] : List (S74)), 2)) else ((impl_isStore.f x0).bind fun t180 => (if t180 = true then ((impl_isBatch.f x1).bind fun t181 => (impl_ApplyBatch.j1 k x0 x1 (!t181))) else (impl_ApplyBatch.j1 k x0 x1 true)))
def impl_ApplyBatch.j1 : Nat → List (S74) → List (S88) → Bool → Option ((List (S74)) × Int)
  | 0, _, _, _ => none
  | k + 1, x0, x1, x17 => if x17 = true then (some (([] : List (S74)), 1)) else ((impl_apply.f x0 x1).bind fun bt182 => (if bt182.2 = true then (some (bt182.1, 0)) else (some (([] : List (S74)), 9))))
end
def impl_ApplyBatch.f (k : Nat) (l0 : List (S74)) (l1 : List (S88)) : Option ((List (S74)) × Int) := (impl_Pair_50.f l0).bind fun t178 => (if t178 = true then ((impl_Change_63.f l1).bind fun t179 => (impl_ApplyBatch.j0 k l0 l1 (!t179))) else (impl_ApplyBatch.j0 k l0 l1 true))
theorem impl_ApplyBatch.mono_l : ∀ k, (∀ y0 y1 y2, LeO (impl_ApplyBatch.j0 k y0 y1 y2) (impl_ApplyBatch.j0 (k + 1) y0 y1 y2)) ∧ (∀ y0 y1 y2, LeO (impl_ApplyBatch.j1 k y0 y1 y2) (impl_ApplyBatch.j1 (k + 1) y0 y1 y2))
  | 0 => ⟨fun _ _ _ r h => by simp [impl_ApplyBatch.j0] at h, fun _ _ _ r h => by simp [impl_ApplyBatch.j1] at h⟩
  | k + 1 => by
    obtain ⟨ih0, ih1⟩ := impl_ApplyBatch.mono_l k
    refine ⟨?_, ?_⟩
    · intro y0 y1 y2
      unfold impl_ApplyBatch.j0
      repeat' first
      | (with_reducible exact ih0 _ _ _)
      | (with_reducible exact ih1 _ _ _)
      | (with_reducible exact LeO.refl _)
      | (with_reducible exact LeO.none _)
      | (with_reducible refine LeO.ite ?_ ?_)
      | (with_reducible refine LeO.bind ?_ (fun _ => ?_))
      | exact ih0 _ _ _
      | exact ih1 _ _ _
      | exact LeO.none _
      | refine LeO.ite ?_ ?_
      | refine LeO.bind ?_ (fun _ => ?_)
    · intro y0 y1 y2
      unfold impl_ApplyBatch.j1
      repeat' first
      | (with_reducible exact ih0 _ _ _)
      | (with_reducible exact ih1 _ _ _)
      | (with_reducible exact LeO.refl _)
      | (with_reducible exact LeO.none _)
      | (with_reducible refine LeO.ite ?_ ?_)
      | (with_reducible refine LeO.bind ?_ (fun _ => ?_))
      | exact ih0 _ _ _
      | exact ih1 _ _ _
      | exact LeO.none _
      | refine LeO.ite ?_ ?_
      | refine LeO.bind ?_ (fun _ => ?_)
theorem impl_ApplyBatch.mono : ∀ a0 a1 k, LeO (impl_ApplyBatch.f k a0 a1) (impl_ApplyBatch.f (k + 1) a0 a1) := by
  intro a0 a1 k
  obtain ⟨ih0, ih1⟩ := impl_ApplyBatch.mono_l k
  unfold impl_ApplyBatch.f
  repeat' first
      | (with_reducible exact ih0 _ _ _)
      | (with_reducible exact ih1 _ _ _)
      | (with_reducible exact LeO.refl _)
      | (with_reducible exact LeO.none _)
      | (with_reducible refine LeO.ite ?_ ?_)
      | (with_reducible refine LeO.bind ?_ (fun _ => ?_))
      | exact ih0 _ _ _
      | exact ih1 _ _ _
      | exact LeO.none _
      | refine LeO.ite ?_ ?_
      | refine LeO.bind ?_ (fun _ => ?_)
set_option maxHeartbeats 8000000 in
set_option maxRecDepth 100000 in
theorem impl_ApplyBatch.calls (k : Nat) (A0 : Option Addr) (c0 : Nat) (l0 : List (S74)) (A1 : Option Addr) (c1 : Nat) (l1 : List (S88)) (r1 : List (S74)) (r2 : Int) (w : World) (hr0 : Kd.C k74 w A0 l0.length l0) (hc0 : l0.length ≤ c0) (hr1 : Kd.C k88 w A1 l1.length l1) (hc1 : l1.length ≤ c1) (h : impl_ApplyBatch.f k l0 l1 = some (r1, r2)) :
    Calls Try.prog 44 #[.slice A0 l0.length c0, .slice A1 l1.length c1] w fun e w' => ∃ v0_ : Value, e = .returned (.tuple #[v0_, .int .i64 r2]) ∧ Kd.R k74 74 w' w.heap.size (fun _ => True) v0_ r1 ∧ Below w.heap.size w w' := by
  have HR0 := Aside0.mk hr0
  have HC0 := Aside0.mk hc0
  clear hr0 hc0
  have HR1 := Aside0.mk hr1
  have HC1 := Aside0.mk hc1
  clear hr1 hc1
  have HB := Aside0.mk (Below.refl w.heap.size w)
  have H : ((impl_Pair_50.f l0).bind fun t178 => (if t178 = true then ((impl_Change_63.f l1).bind fun t179 => (impl_ApplyBatch.j0 k l0 l1 (!t179))) else (impl_ApplyBatch.j0 k l0 l1 true))) = some (r1, r2) := h
  clear h
  have HC3 := Aside0.mk H
  clear H
  go_enter Try.func44, Try.ntmps44
  go_upto_region 1 with (fail)
  go_cut [8] (fun v8 wc => ∃ (kq : Nat) (x8_2 : Bool), v8 = .bool x8_2 ∧ Aside0 (impl_ApplyBatch.j0 kq l0 l1 x8_2 = some (r1, r2)) ∧ Aside0 (kq ≤ k) ∧ Aside0 (Below w.heap.size w wc))
  case first =>
    have H := HC3.out
    clear HC3
    replace H := Option.bind_eq_some_iff.mp H
    obtain ⟨t178, A40, H⟩ := H
    replace H : (if t178 = true then ((impl_Change_63.f l1).bind fun t179 => (impl_ApplyBatch.j0 k l0 l1 (!t179))) else (impl_ApplyBatch.j0 k l0 l1 true)) = some (r1, r2) := H
    have A4 := Aside0.mk A40
    clear A40
    by_cases c5 : t178 = true
    · subst c5
      have H1 : ((impl_Change_63.f l1).bind fun t179 => (impl_ApplyBatch.j0 k l0 l1 (!t179))) = some (r1, r2) := by rw [if_pos rfl] at H; exact H
      clear H
      have H := H1
      clear H1
      replace H := Option.bind_eq_some_iff.mp H
      obtain ⟨t179, A60, H⟩ := H
      replace H : (impl_ApplyBatch.j0 k l0 l1 (!t179)) = some (r1, r2) := H
      have A6 := Aside0.mk A60
      clear A60
      have H' := Aside0.mk H
      clear H
      go_wp2_with (first | ((with_reducible refine gate_callee (f := 50) rfl ?_); refine goesL_ (some 10) rfl rfl Try.func50 (by kernel_rfl) rfl #[.slice A0 l0.length c0] rfl (by (try simp only [List.map_toArray, List.map_cons, List.map_nil]); first | done | rfl | (simp only [List.length_drop, List.length_take]; rfl)) ?_; (with_reducible refine (impl_Pair_50.calls _ _ l0 true _ ?side1 ?side2 A4.out).mono ?_); (case side1 => repeat (first | exact (Kd.C_below HR0.out HB.out) | (with_reducible refine Kd.C_alloc ?_ _) | (with_reducible refine Kd.C_drewN ?_ _) | (with_reducible refine Kd.C_drew ?_))); (case side2 => exact HC0.out); rintro e w' ⟨rfl, ⟨nd, rfl⟩⟩; refine ⟨_, rfl, ?_⟩) | (go_at_call 63; (with_reducible refine (impl_Change_63.calls _ _ l1 t179 _ ?side1 ?side2 A6.out).mono ?_); (case side1 => repeat (first | exact (Kd.C_below HR1.out (by repeat (first | (with_reducible first | exact HB.out | apply below_alloc | apply pw_below_drewN | apply below_drew1) | exact HB.out))) | (with_reducible refine Kd.C_alloc ?_ _) | (with_reducible refine Kd.C_drewN ?_ _) | (with_reducible refine Kd.C_drew ?_))); (case side2 => exact HC1.out); rintro e w' ⟨rfl, ⟨nd, rfl⟩⟩))
      go_meet
      case rel => exact ⟨_, (!t179), (by first | rfl | (simp; done) | (simp [*]; done)), H', ⟨by first | omega | exact Nat.le_refl _⟩, ⟨by repeat (first | (with_reducible first | exact HB.out | apply below_alloc | apply pw_below_drewN | apply below_drew1) | exact HB.out)⟩⟩
    · replace c5 := Bool.eq_false_iff.mpr c5
      subst c5
      have H1 : (impl_ApplyBatch.j0 k l0 l1 true) = some (r1, r2) := by rw [if_neg (show ¬ (false = true) by decide)] at H; exact H
      clear H
      have H := H1
      clear H1
      have H' := Aside0.mk H
      clear H
      go_wp2_with (first | ((with_reducible refine gate_callee (f := 50) rfl ?_); refine goesL_ (some 10) rfl rfl Try.func50 (by kernel_rfl) rfl #[.slice A0 l0.length c0] rfl (by (try simp only [List.map_toArray, List.map_cons, List.map_nil]); first | done | rfl | (simp only [List.length_drop, List.length_take]; rfl)) ?_; (with_reducible refine (impl_Pair_50.calls _ _ l0 false _ ?side1 ?side2 A4.out).mono ?_); (case side1 => repeat (first | exact (Kd.C_below HR0.out HB.out) | (with_reducible refine Kd.C_alloc ?_ _) | (with_reducible refine Kd.C_drewN ?_ _) | (with_reducible refine Kd.C_drew ?_))); (case side2 => exact HC0.out); rintro e w' ⟨rfl, ⟨nd, rfl⟩⟩; refine ⟨_, rfl, ?_⟩))
      go_meet
      case rel => exact ⟨_, (true), (by first | rfl | (simp; done) | (simp [*]; done)), H', ⟨by first | omega | exact Nat.le_refl _⟩, ⟨by repeat (first | (with_reducible first | exact HB.out | apply below_alloc | apply pw_below_drewN | apply below_drew1) | exact HB.out)⟩⟩
  case rest =>
    clear HC3
    try clear c1
    try clear p2
    try clear c4
    try clear c5
    obtain ⟨kq, x8_2, rfl, HA, HJ2, HB⟩ := hcut
    cases kq with
    | zero => exact absurd HA.out (by simp [impl_ApplyBatch.j0])
    | succ kj2 =>
      have H := HA.out
      clear HA
      simp only [impl_ApplyBatch.j0] at H
      by_cases c7 : x8_2 = true
      · subst c7
        have H1 : (some (([] : List (S74)), 2)) = some (r1, r2) := by rw [if_pos rfl] at H; exact H
        clear H
        have H := H1
        clear H1
        simp only [Option.some.injEq, Prod.mk.injEq] at H
        obtain ⟨rfl, rfl⟩ := H
        go_wp2
        go_ret2
        exact ⟨_, by first | rfl | (simp [errW_none, errW_some] <;> rfl) | (simp [*, errW_none, errW_some] <;> rfl), by first | exact Kd.R_nil _ _ _ _ _ | exact Kd.N_nil _ _ _ _ _ | exact Kd.V_nil _ _ _ _ _ | exact Kd.Q_nil _ _ _ _ _ | exact Kd.S_nil _ _ _ _ _, by repeat (first | (with_reducible first | exact HB.out | apply below_alloc | apply pw_below_drewN | apply below_drew1) | exact HB.out)⟩
      · replace c7 := Bool.eq_false_iff.mpr c7
        subst c7
        have H1 : ((impl_isStore.f l0).bind fun t180 => (if t180 = true then ((impl_isBatch.f l1).bind fun t181 => (impl_ApplyBatch.j1 kj2 l0 l1 (!t181))) else (impl_ApplyBatch.j1 kj2 l0 l1 true))) = some (r1, r2) := by rw [if_neg (show ¬ (false = true) by decide)] at H; exact H
        clear H
        have H := H1
        clear H1
        have HC8 := Aside0.mk H
        clear H
        go_upto_region 3 with (fail)
        go_cut [17] (fun v17 wc => ∃ (kq : Nat) (x17_7 : Bool), v17 = .bool x17_7 ∧ Aside0 (impl_ApplyBatch.j1 kq l0 l1 x17_7 = some (r1, r2)) ∧ Aside0 (kq ≤ kj2) ∧ Aside0 (Below w.heap.size w wc))
        case first =>
          have H := HC8.out
          clear HC8
          replace H := Option.bind_eq_some_iff.mp H
          obtain ⟨t180, A90, H⟩ := H
          replace H : (if t180 = true then ((impl_isBatch.f l1).bind fun t181 => (impl_ApplyBatch.j1 kj2 l0 l1 (!t181))) else (impl_ApplyBatch.j1 kj2 l0 l1 true)) = some (r1, r2) := H
          have A9 := Aside0.mk A90
          clear A90
          by_cases c10 : t180 = true
          · subst c10
            have H1 : ((impl_isBatch.f l1).bind fun t181 => (impl_ApplyBatch.j1 kj2 l0 l1 (!t181))) = some (r1, r2) := by rw [if_pos rfl] at H; exact H
            clear H
            have H := H1
            clear H1
            replace H := Option.bind_eq_some_iff.mp H
            obtain ⟨t181, A110, H⟩ := H
            replace H : (impl_ApplyBatch.j1 kj2 l0 l1 (!t181)) = some (r1, r2) := H
            have A11 := Aside0.mk A110
            clear A110
            have H' := Aside0.mk H
            clear H
            go_wp2_with (first | ((with_reducible refine gate_callee (f := 52) rfl ?_); refine goesL_ (some 19) rfl rfl Try.func52 (by kernel_rfl) rfl #[.slice A0 l0.length c0] rfl (by (try simp only [List.map_toArray, List.map_cons, List.map_nil]); first | done | rfl | (simp only [List.length_drop, List.length_take]; rfl)) ?_; (with_reducible refine (impl_isStore.calls _ _ l0 true _ ?side1 ?side2 A9.out).mono ?_); (case side1 => repeat (first | exact (Kd.C_below HR0.out HB.out) | (with_reducible refine Kd.C_alloc ?_ _) | (with_reducible refine Kd.C_drewN ?_ _) | (with_reducible refine Kd.C_drew ?_))); (case side2 => exact HC0.out); rintro e w12 ⟨rfl, hb⟩; refine ⟨_, rfl, ?_⟩; have n0_ := Aside0.mk (below_step (by repeat (first | (with_reducible first | exact HB.out | apply below_alloc | apply pw_below_drewN | apply below_drew1) | exact HB.out)) hb); clear HB; have HB := n0_; clear n0_; (try clear hb); (try clear hb2); (try clear hk); (try clear hi)) | (go_at_call 64; (with_reducible refine (impl_isBatch.calls _ _ l1 t181 _ ?side1 ?side2 A11.out).mono ?_); (case side1 => repeat (first | exact (Kd.C_below HR1.out HB.out) | (with_reducible refine Kd.C_alloc ?_ _) | (with_reducible refine Kd.C_drewN ?_ _) | (with_reducible refine Kd.C_drew ?_))); (case side2 => exact HC1.out); rintro e w13 ⟨rfl, hb⟩; have n0_ := Aside0.mk (below_step (by repeat (first | (with_reducible first | exact HB.out | apply below_alloc | apply pw_below_drewN | apply below_drew1) | exact HB.out)) hb); clear HB; have HB := n0_; clear n0_; (try clear hb); (try clear hb2); (try clear hk); (try clear hi)))
            go_meet
            case rel => exact ⟨_, (!t181), (by first | rfl | (simp; done) | (simp [*]; done)), H', ⟨by have := HJ2.out; first | omega | exact Nat.le_refl _⟩, ⟨by repeat (first | (with_reducible first | exact HB.out | apply below_alloc | apply pw_below_drewN | apply below_drew1) | exact HB.out)⟩⟩
          · replace c10 := Bool.eq_false_iff.mpr c10
            subst c10
            have H1 : (impl_ApplyBatch.j1 kj2 l0 l1 true) = some (r1, r2) := by rw [if_neg (show ¬ (false = true) by decide)] at H; exact H
            clear H
            have H := H1
            clear H1
            have H' := Aside0.mk H
            clear H
            go_wp2_with (first | ((with_reducible refine gate_callee (f := 52) rfl ?_); refine goesL_ (some 19) rfl rfl Try.func52 (by kernel_rfl) rfl #[.slice A0 l0.length c0] rfl (by (try simp only [List.map_toArray, List.map_cons, List.map_nil]); first | done | rfl | (simp only [List.length_drop, List.length_take]; rfl)) ?_; (with_reducible refine (impl_isStore.calls _ _ l0 false _ ?side1 ?side2 A9.out).mono ?_); (case side1 => repeat (first | exact (Kd.C_below HR0.out HB.out) | (with_reducible refine Kd.C_alloc ?_ _) | (with_reducible refine Kd.C_drewN ?_ _) | (with_reducible refine Kd.C_drew ?_))); (case side2 => exact HC0.out); rintro e w14 ⟨rfl, hb⟩; refine ⟨_, rfl, ?_⟩; have n0_ := Aside0.mk (below_step (by repeat (first | (with_reducible first | exact HB.out | apply below_alloc | apply pw_below_drewN | apply below_drew1) | exact HB.out)) hb); clear HB; have HB := n0_; clear n0_; (try clear hb); (try clear hb2); (try clear hk); (try clear hi)))
            go_meet
            case rel => exact ⟨_, (true), (by first | rfl | (simp; done) | (simp [*]; done)), H', ⟨by have := HJ2.out; first | omega | exact Nat.le_refl _⟩, ⟨by repeat (first | (with_reducible first | exact HB.out | apply below_alloc | apply pw_below_drewN | apply below_drew1) | exact HB.out)⟩⟩
        case rest =>
          clear HC8
          try clear c1
          try clear p2
          try clear c4
          try clear c5
          try clear c7
          try clear c10
          try clear p2
          obtain ⟨kq, x17_7, rfl, HA, HJ7, HB⟩ := hcut
          cases kq with
          | zero => exact absurd HA.out (by simp [impl_ApplyBatch.j1])
          | succ kj7 =>
            have H := HA.out
            clear HA
            simp only [impl_ApplyBatch.j1] at H
            by_cases c15 : x17_7 = true
            · subst c15
              have H1 : (some (([] : List (S74)), 1)) = some (r1, r2) := by rw [if_pos rfl] at H; exact H
              clear H
              have H := H1
              clear H1
              simp only [Option.some.injEq, Prod.mk.injEq] at H
              obtain ⟨rfl, rfl⟩ := H
              go_wp2
              go_ret2
              exact ⟨_, by first | rfl | (simp [errW_none, errW_some] <;> rfl) | (simp [*, errW_none, errW_some] <;> rfl), by first | exact Kd.R_nil _ _ _ _ _ | exact Kd.N_nil _ _ _ _ _ | exact Kd.V_nil _ _ _ _ _ | exact Kd.Q_nil _ _ _ _ _ | exact Kd.S_nil _ _ _ _ _, by repeat (first | (with_reducible first | exact HB.out | apply below_alloc | apply pw_below_drewN | apply below_drew1) | exact HB.out)⟩
            · replace c15 := Bool.eq_false_iff.mpr c15
              subst c15
              have H1 : ((impl_apply.f l0 l1).bind fun bt182 => (if bt182.2 = true then (some (bt182.1, 0)) else (some (([] : List (S74)), 9)))) = some (r1, r2) := by rw [if_neg (show ¬ (false = true) by decide)] at H; exact H
              clear H
              have H := H1
              clear H1
              replace H := Option.bind_eq_some_iff.mp H
              obtain ⟨⟨t182, t183⟩, A160, H⟩ := H
              replace H : (if t183 = true then (some (t182, 0)) else (some (([] : List (S74)), 9))) = some (r1, r2) := H
              have A16 := Aside0.mk A160
              clear A160
              by_cases c17 : t183 = true
              · subst c17
                have H1 : (some (t182, 0)) = some (r1, r2) := by rw [if_pos rfl] at H; exact H
                clear H
                have H := H1
                clear H1
                simp only [Option.some.injEq, Prod.mk.injEq] at H
                obtain ⟨rfl, rfl⟩ := H
                go_wp2_with (first | ((with_reducible refine gate_callee (f := 84) rfl ?_); refine goesL_ (some 29) rfl rfl Try.func84 (by kernel_rfl) rfl #[.slice A0 l0.length c0, .slice A1 l1.length c1] rfl (by (try simp only [List.map_toArray, List.map_cons, List.map_nil]); first | done | rfl | (simp only [List.length_drop, List.length_take]; rfl)) ?_; (with_reducible refine (impl_apply.calls _ _ l0 _ _ l1 t182 true _ ?side1 ?side2 ?side3 ?side4 A16.out).mono ?_); (case side1 => repeat (first | exact (Kd.C_below HR0.out HB.out) | (with_reducible refine Kd.C_alloc ?_ _) | (with_reducible refine Kd.C_drewN ?_ _) | (with_reducible refine Kd.C_drew ?_))); (case side2 => exact HC0.out); (case side3 => repeat (first | exact (Kd.C_below HR1.out HB.out) | (with_reducible refine Kd.C_alloc ?_ _) | (with_reducible refine Kd.C_drewN ?_ _) | (with_reducible refine Kd.C_drew ?_))); (case side4 => exact HC1.out); rintro e w18 ⟨v184, rfl, ho0, hb⟩; refine ⟨_, rfl, ?_⟩; have n0_ := Aside0.mk (Kd.R_lower ho0 (below_size (by repeat (first | (with_reducible first | exact HB.out | apply below_alloc | apply pw_below_drewN | apply below_drew1) | exact HB.out)))); have n1_ := Aside0.mk (below_step (by repeat (first | (with_reducible first | exact HB.out | apply below_alloc | apply pw_below_drewN | apply below_drew1) | exact HB.out)) hb); clear HB; have HO185 := n0_; have HB := n1_; clear n0_ n1_; (try clear hb); (try clear hb2); (try clear hk); (try clear hi); (try clear ho0)))
                go_ret2
                exact ⟨_, by first | rfl | (simp [errW_none, errW_some] <;> rfl) | (simp [*, errW_none, errW_some] <;> rfl), by (with_reducible repeat (first | apply Kd.R_alloc | apply Kd.R_drewN | apply Kd.R_drew)); exact HO185.out, by repeat (first | (with_reducible first | exact HB.out | apply below_alloc | apply pw_below_drewN | apply below_drew1) | exact HB.out)⟩
              · replace c17 := Bool.eq_false_iff.mpr c17
                subst c17
                have H1 : (some (([] : List (S74)), 9)) = some (r1, r2) := by rw [if_neg (show ¬ (false = true) by decide)] at H; exact H
                clear H
                have H := H1
                clear H1
                simp only [Option.some.injEq, Prod.mk.injEq] at H
                obtain ⟨rfl, rfl⟩ := H
                go_wp2_with (first | ((with_reducible refine gate_callee (f := 84) rfl ?_); refine goesL_ (some 29) rfl rfl Try.func84 (by kernel_rfl) rfl #[.slice A0 l0.length c0, .slice A1 l1.length c1] rfl (by (try simp only [List.map_toArray, List.map_cons, List.map_nil]); first | done | rfl | (simp only [List.length_drop, List.length_take]; rfl)) ?_; (with_reducible refine (impl_apply.calls _ _ l0 _ _ l1 t182 false _ ?side1 ?side2 ?side3 ?side4 A16.out).mono ?_); (case side1 => repeat (first | exact (Kd.C_below HR0.out HB.out) | (with_reducible refine Kd.C_alloc ?_ _) | (with_reducible refine Kd.C_drewN ?_ _) | (with_reducible refine Kd.C_drew ?_))); (case side2 => exact HC0.out); (case side3 => repeat (first | exact (Kd.C_below HR1.out HB.out) | (with_reducible refine Kd.C_alloc ?_ _) | (with_reducible refine Kd.C_drewN ?_ _) | (with_reducible refine Kd.C_drew ?_))); (case side4 => exact HC1.out); rintro e w19 ⟨v184, rfl, ho0, hb⟩; refine ⟨_, rfl, ?_⟩; have n0_ := Aside0.mk (Kd.R_lower ho0 (below_size (by repeat (first | (with_reducible first | exact HB.out | apply below_alloc | apply pw_below_drewN | apply below_drew1) | exact HB.out)))); have n1_ := Aside0.mk (below_step (by repeat (first | (with_reducible first | exact HB.out | apply below_alloc | apply pw_below_drewN | apply below_drew1) | exact HB.out)) hb); clear HB; have HO185 := n0_; have HB := n1_; clear n0_ n1_; (try clear hb); (try clear hb2); (try clear hk); (try clear hi); (try clear ho0)))
                go_ret2
                exact ⟨_, by first | rfl | (simp [errW_none, errW_some] <;> rfl) | (simp [*, errW_none, errW_some] <;> rfl), by first | exact Kd.R_nil _ _ _ _ _ | exact Kd.N_nil _ _ _ _ _ | exact Kd.V_nil _ _ _ _ _ | exact Kd.Q_nil _ _ _ _ _ | exact Kd.S_nil _ _ _ _ _, by repeat (first | (with_reducible first | exact HB.out | apply below_alloc | apply pw_below_drewN | apply below_drew1) | exact HB.out)⟩

end Go.Proofs.Ythojdfndgfpkpaa.XA
