-- Written by a program of this session (xp.py over the kit's printer, with functions proved by hand). Lean checks it.
import Derived.Test.YthojdfndgfpkpaaXAx0
namespace Go.Proofs.Ythojdfndgfpkpaa.XA
open Go.Proofs.Ythojdfndgfpkpaa.Open Go.Proofs.Ythojdfndgfpkpaa.OpenWin Go.Proofs.Ythojdfndgfpkpaa.OpenRow Go.Proofs.Ythojdfndgfpkpaa.OpenFlat Go.Proofs.Ythojdfndgfpkpaa.OpenOrd
open Go.RowKit Go.Proofs.YthojdfndgfpkpaaW.PrintWords Go.Proofs.YthojdfndgfpkpaaW.PrintLast Go.Proofs.YthojdfndgfpkpaaW.PrintMore
attribute [local go_sem] max2_int min2_int max_two min_two max_three min_three max_four min_four   -- for this text's walks alone
set_option linter.unusedVariables false
set_option linter.unusedSimpArgs false

/-! ### spec_l03Apply: function 83 -/
/-- the order of two texts -/
def spec_l03Apply.lt (a b : ByteArray) : Bool := Op.bytesLess a.data.toList b.data.toList
/-- where a key stands or would stand -/
def spec_l03Apply.pos (xs : List S74) (key : ByteArray) : Nat := Ythojdfndgfpkpaa.OpenOrd.ahead (fun x : S74 => spec_l03Apply.lt x.f0 key) xs
/-- what stands behind the key -/
def spec_l03Apply.hit (xs : List S74) (key : ByteArray) : Bool := decide (spec_l03Apply.pos xs key < xs.length) && decide ((xs.getD (spec_l03Apply.pos xs key) z74).f0.data.toList = key.data.toList)
def spec_l03Apply.rest (xs : List S74) (key : ByteArray) : List S74 := if spec_l03Apply.hit xs key = true then xs.drop (spec_l03Apply.pos xs key + 1) else xs.drop (spec_l03Apply.pos xs key)
def spec_l03Apply.step (xs : List S74) (c : S88) : List S74 := if c.f2 = true then xs.take (spec_l03Apply.pos xs c.f0) ++ spec_l03Apply.rest xs c.f0 else xs.take (spec_l03Apply.pos xs c.f0) ++ (⟨c.f0, c.f1⟩ : S74) :: spec_l03Apply.rest xs c.f0
/-- a store behind changes -/
def spec_l03Apply.applied (xs : List S74) (cs : List S88) : List S74 := cs.foldl spec_l03Apply.step xs
theorem spec_l03Apply.applied_succ (xs : List S74) (cs : List S88) (k : Nat) (h : k < cs.length) : spec_l03Apply.applied xs (cs.take (k + 1)) = spec_l03Apply.step (spec_l03Apply.applied xs (cs.take k)) (cs.getD k z88) := by
  unfold spec_l03Apply.applied
  rw [List.take_add_one, List.getElem?_eq_getElem h, List.foldl_append, List.getD_eq_getElem?_getD, List.getElem?_eq_getElem h]
  rfl
theorem spec_l03Apply.step_length (xs : List S74) (c : S88) : (spec_l03Apply.step xs c).length ≤ xs.length + 1 := by
  have hp : spec_l03Apply.pos xs c.f0 ≤ xs.length := Ythojdfndgfpkpaa.OpenOrd.ahead_le _ _
  unfold spec_l03Apply.step spec_l03Apply.rest
  by_cases c1 : c.f2 = true
  · rw [if_pos c1]; split <;> simp <;> omega
  · rw [if_neg c1]; split <;> simp <;> omega
theorem spec_l03Apply.applied_length (xs : List S74) (cs : List S88) : (spec_l03Apply.applied xs cs).length ≤ xs.length + cs.length := by
  induction cs generalizing xs with
  | nil => simp [spec_l03Apply.applied]
  | cons c cs ih =>
    have h1 := ih (spec_l03Apply.step xs c)
    have h2 := spec_l03Apply.step_length xs c
    simp only [spec_l03Apply.applied, List.foldl_cons, List.length_cons] at h1 ⊢
    omega
/-- a text of two cells -/
theorem spec_l03Apply.flat : Ythojdfndgfpkpaa.OpenFlat.Flat k74 (fun x : S74 => [.string x.f0, .string x.f1]) :=
  ⟨fun _ _ _ _ _ => ⟨fun h => k74_openM h, fun h => by rw [h]; exact k74_mkM _ _ _ _⟩, fun _ => rfl, fun _ v hv => by simp at hv; rcases hv with rfl | rfl <;> rfl⟩
def spec_l03Apply.f (l0 : List (S74)) (l1 : List (S88)) : Option ((List (S74))) := if l0.length ≤ 4096 ∧ l1.length ≤ 4096 then some (spec_l03Apply.applied l0 l1) else none
set_option maxHeartbeats 8000000 in
set_option maxRecDepth 100000 in
theorem spec_l03Apply.calls (A0 : Option Addr) (c0 : Nat) (l0 : List (S74)) (A1 : Option Addr) (c1 : Nat) (l1 : List (S88)) (r : List (S74)) (w : World) (hr0 : Kd.C k74 w A0 l0.length l0) (hc0 : l0.length ≤ c0) (hr1 : Kd.C k88 w A1 l1.length l1) (hc1 : l1.length ≤ c1) (h : spec_l03Apply.f l0 l1 = some r) :
    Calls Try.prog 83 #[.slice A0 l0.length c0, .slice A1 l1.length c1] w fun e w' => ∃ v0_ : Value, e = .returned (v0_) ∧ Kd.R k74 74 w' w.heap.size (fun _ => True) v0_ r ∧ Below w.heap.size w w' := by
  unfold spec_l03Apply.f at h
  have hs : l0.length ≤ 4096 ∧ l1.length ≤ 4096 := Decidable.byContradiction fun hs => by rw [if_neg hs] at h; cases h
  rw [if_pos hs] at h
  injection h with h
  subst h
  obtain ⟨h0, h1⟩ := hs
  have hu := Try.underlying74
  have hu2 := Try.underlying88
  have hlen1 : l1.length ≤ 9223372036854775807 := by omega
  have HC0 := Aside0.mk hr0
  have HC1 := Aside0.mk hr1
  have qg : ∀ (a b : ByteArray) (W : World), (binOp .lss 9 (.string a) (.string b)).run Try.prog W = .ok (.bool (spec_l03Apply.lt a b)) W := fun a b W => by simp [binOp, Op.stringOp, spec_l03Apply.lt, Lib.toList_data]
  clear hr0 hr1
  go_enter Try.func83, Try.ntmps83
  go_wp2_with (first
    | ((with_reducible refine gate_dst (N := 10) rfl ?_); refine Kd.R_lit k74 (w0 := w) w.heap.size 74 ?hg (N := 10) ?hd (xs := []) (inner := []) (ok := fun _ => True) (okp := fun _ => True) ?hr ?hp (fun _ hk => hk) trivial (Below.refl _ _) (Nat.le_refl _) (by simp) ?_; (case hd => rfl); (case hg => rfl); (case hr => first | (go_simp; done) | (go_simp; rfl)); (case hp => exact (Reps.none _ _)); intro v2 w2 ho2 hb2 hg2 hn2; have HO2 := Aside0.mk ho2; have HB2 := Aside0.mk hb2; clear ho2 hb2 hg2 hn2)
    | ((with_reducible refine gate_builtin (b := .append) (xs := #[.tmp 10, .tmp 11]) rfl ?_); at_builtin; refine Kd.R_append_rows k74 (w0 := w) w.heap.size rfl (.tmp 10) (.tmp 11) 24 74 (.agg #[(.string ⟨#[]⟩), (.string ⟨#[]⟩)]) 32 rfl Try.underlying24 info74 rfl (by decide) (by decide) v2 [] l0 A0 l0.length c0 (fun _ => True) (fun _ => False) rfl rfl HO2.out (Kd.C_below HC0.out HB2.out) (fun y cs h => by rw [k74_open h]; exact k74_mkM _ _ _ _) (fun _ h => h.elim) (fun _ _ => trivial) HB2.out HB2.out.size (by simp; omega) ?_; intro v3 w3 ho3 hb3 hg3 hn3; have HO3 := Aside0.mk ho3; have HB3 := Aside0.mk hb3; clear ho3 hb3 hg3 hn3))
  rw [List.nil_append] at HO3
  go_loopg [5, 6] l1.length (fun gg s5 s6 wr => ∃ kk : Nat, kk ≤ l1.length ∧ l1.length - kk ≤ gg ∧ s6 = .int .i64 kk ∧ Aside0 (Kd.R k74 74 wr w.heap.size (fun _ => True) s5 (spec_l03Apply.applied l0 (l1.take kk))) ∧ Aside0 (Below w.heap.size w wr))
  case atStart => exact ⟨0, Nat.zero_le _, by omega, rfl, ⟨HO3.out⟩, HB3⟩
  case round =>
    obtain ⟨kk, hkk, hg, rfl, HO, HB⟩ := hrel
    by_cases hlt : kk < l1.length
    · have hltz : (kk : Int) < (l1.length : Int) := by omega
      have HCr := Aside0.mk (Kd.C_below HC1.out HB.out)
      obtain ⟨ad, e1, hx0, hx1, hx2⟩ := at_T88 HCr.out (kk : Int) (by omega) (by omega)
      cases e1
      have hrd : rd_T88 l1 (kk : Int) = l1.getD kk z88 := by rw [rd_T88, Int.toNat_natCast]
      simp only [Int.toNat_natCast, hrd] at hx0 hx1 hx2
      have HST := Aside0.mk (spec_l03Apply.applied_succ l0 l1 kk hlt)
      have HLN := Aside0.mk (show (spec_l03Apply.applied l0 (l1.take kk)).length ≤ 100000 by have := spec_l03Apply.applied_length l0 (l1.take kk); rw [List.length_take] at this; omega)
      generalize l1.getD kk z88 = x at *
      generalize spec_l03Apply.applied l0 (l1.take kk) = xs at *
      clear hrd
      obtain ⟨x0, x1, x2⟩ := x
      obtain ⟨A4, c4, rfl⟩ := Kd.R_slice HO.out
      obtain ⟨p, hpos⟩ : ∃ p, spec_l03Apply.pos xs x0 = p := ⟨_, rfl⟩
      have hpl : p ≤ xs.length := by rw [← hpos]; exact Ythojdfndgfpkpaa.OpenOrd.ahead_le _ _
      have hlnz : (xs.length : Int) ≤ 100000 := by have := HLN.out; omega
      have HBx := Aside0.mk (show (wr.alloc (.cells #[.string x0, .string x1, .bool x2] 88)).heap[wr.heap.size]? = some (.cells #[.string x0, .string x1, .bool x2] 88 (0, 0)) by show (wr.heap.push _)[wr.heap.size]? = _; simp)
      have HOx := Aside0.mk (Kd.R_alloc HO.out (.cells #[.string x0, .string x1, .bool x2] 88))
      have HBb := Aside0.mk (below_alloc HB.out (.cells #[.string x0, .string x1, .bool x2] 88))
      obtain ⟨gb, hgb⟩ : ∃ gb, gb = wr.heap.size := ⟨_, rfl⟩
      have hbg : w.heap.size ≤ gb := by rw [hgb]; exact HB.out.size
      have HNE := Aside0.mk (show ∀ k, (Value.slice A4 xs.length c4).ownBlock = some k → k ≠ gb from fun k hk => by rw [hgb]; exact (Kd.R_elderB HO.out wr.heap.size (Nat.le_refl _)).1 k hk |>.2)
      go_wp2
      rw [← hgb] at HBx ⊢
      generalize wr.alloc (.cells #[.string x0, .string x1, .bool x2] 88) = W1 at *
      clear hgb
      go_loopg [8] xs.length (fun gg s8 w1 => ∃ q : Nat, q ≤ p ∧ xs.length - q ≤ gg ∧ s8 = .int .i64 q ∧ Aside0 (Kd.R k74 74 w1 w.heap.size (fun _ => True) (.slice A4 xs.length c4) xs) ∧ Aside0 (Below w.heap.size w w1) ∧ Aside0 (w1.heap[gb]? = some (.cells #[.string x0, .string x1, .bool x2] 88 (0, 0))))
      case atStart => exact ⟨0, Nat.zero_le _, by omega, rfl, HOx, HBb, HBx⟩
      case round =>
        obtain ⟨q, hq, hqg, rfl, HO5, HB5, HX5⟩ := hrel
        have b0 : wr.cell? ⟨gb, 0, none⟩ = some (.string x0) := (blk_cell HX5.out 0).trans rfl
        by_cases hqn : q < xs.length
        · have hqz : (q : Int) < (xs.length : Int) := by omega
          have hq0 : (0 : Int) ≤ (q : Int) := by omega
          obtain ⟨ad5, e1, hy0, _⟩ := at_T74 (Kd.R_reads' HO5.out).2.2 (q : Int) (by omega) (by omega)
          cases e1
          rw [show rd_T74 xs (q : Int) = xs.getD q z74 by simp [rd_T74]] at hy0
          simp only [Int.toNat_natCast] at hy0
          by_cases hqp : q < p
          · have hlt2 : spec_l03Apply.lt (xs.getD q z74).f0 x0 = true := Ythojdfndgfpkpaa.OpenOrd.ahead_lt (fun x : S74 => spec_l03Apply.lt x.f0 x0) z74 xs q (by show q < spec_l03Apply.pos xs x0; omega)
            generalize (xs.getD q z74).f0 = k0 at *
            go_wp2_with fail
            have hlt3 : Op.bytesLess k0.toList x0.toList = true := by rw [Lib.toList_data, Lib.toList_data]; exact hlt2
            refine start_ (n := 14) (S := fun w' => w'.cell? (ad5.add (q * 2)) = some (.string k0) ∧ w'.cell? ⟨gb, 0, none⟩ = some (.string x0)) (ds := []) #[false, false, false, false, false, false, false, false, false, false, false, false, false, false] (by kernel_rfl) rfl rfl ⟨hy0, b0⟩ (fun hHeld => ?_)
            refine pure_ (i := 0) (N := some 23) (v := ?_) (a' := ?_) #[true, false, false, false, false, false, false, false, false, false, false, false, false, false] rfl rfl (by kernel_rfl) (fun _ _ _ h => h) (Or.inl ⟨by rfl, ?_⟩) ?_ ?_
            rotate_left
            · intro w'; go_simp; with_reducible rfl
            rotate_left
            · simp only [Act.put, OpenRow.s1, OpenRow.s2, OpenRow.s3, i64_w, i32_w]; rfl
            refine pure_ (i := 1) (N := some 24) (v := ?_) (a' := ?_) #[true, true, false, false, false, false, false, false, false, false, false, false, false, false] rfl rfl (by kernel_rfl) (fun _ _ _ h => h) (Or.inl ⟨by rfl, ?_⟩) ?_ ?_
            rotate_left
            · intro w'; go_simp; with_reducible rfl
            rotate_left
            · simp only [Act.put, OpenRow.s1, OpenRow.s2, OpenRow.s3, i64_w, i32_w]; rfl
            refine pure_ (i := 2) (N := some 25) (v := ?_) (a' := ?_) #[true, true, true, false, false, false, false, false, false, false, false, false, false, false] rfl rfl (by kernel_rfl) (fun _ _ _ h => h) (Or.inl ⟨by rfl, ?_⟩) ?_ ?_
            rotate_left
            · intro w'; go_simp; with_reducible rfl
            rotate_left
            · simp only [Act.put, OpenRow.s1, OpenRow.s2, OpenRow.s3, i64_w, i32_w]; rfl
            refine pure_ (i := 3) (N := some 26) (v := ?_) (a' := ?_) #[true, true, true, true, false, false, false, false, false, false, false, false, false, false] rfl rfl (by kernel_rfl) (fun _ _ _ h => h) (Or.inl ⟨by rfl, ?_⟩) ?_ ?_
            rotate_left
            · intro w'; go_simp; with_reducible rfl
            rotate_left
            · simp only [Act.put, OpenRow.s1, OpenRow.s2, OpenRow.s3, i64_w, i32_w]; rfl
            refine pure_ (i := 4) (N := some 27) (v := ?_) (a' := ?_) #[true, true, true, true, true, false, false, false, false, false, false, false, false, false] rfl rfl (by kernel_rfl) (fun _ _ _ h => h) (Or.inl ⟨by rfl, ?_⟩) ?_ ?_
            rotate_left
            · intro w'; go_simp; with_reducible rfl
            rotate_left
            · simp only [Act.put, OpenRow.s1, OpenRow.s2, OpenRow.s3, i64_w, i32_w]; rfl
            refine pure_ (i := 5) (N := some 28) (v := ?_) (a' := ?_) #[true, true, true, true, true, true, false, false, false, false, false, false, false, false] rfl rfl (by kernel_rfl) (fun _ _ _ h => h) (Or.inl ⟨by rfl, ?_⟩) ?_ ?_
            rotate_left
            · intro w'; go_simp; with_reducible rfl
            rotate_left
            · simp only [Act.put, OpenRow.s1, OpenRow.s2, OpenRow.s3, i64_w, i32_w]; rfl
            refine pure_ (i := 6) (N := some 29) (v := ?_) (a' := ?_) #[true, true, true, true, true, true, true, false, false, false, false, false, false, false] rfl rfl (by kernel_rfl) (fun _ _ _ h => h) (Or.inl ⟨by rfl, ?_⟩) ?_ ?_
            rotate_left
            · intro w'; go_simp; with_reducible rfl
            rotate_left
            · simp only [Act.put, OpenRow.s1, OpenRow.s2, OpenRow.s3, i64_w, i32_w]; rfl
            refine pure_ (i := 7) (N := some 30) (v := ?_) (a' := ?_) #[true, true, true, true, true, true, true, true, false, false, false, false, false, false] rfl rfl (by kernel_rfl) (fun _ _ _ h => h) (Or.inl ⟨by rfl, ?_⟩) ?_ ?_
            rotate_left
            · intro w'; go_simp; with_reducible rfl
            rotate_left
            · simp only [Act.put, OpenRow.s1, OpenRow.s2, OpenRow.s3, i64_w, i32_w]; rfl
            refine pure_ (i := 8) (N := some 31) (v := ?_) (a' := ?_) #[true, true, true, true, true, true, true, true, true, false, false, false, false, false] rfl rfl (by kernel_rfl) (fun _ _ _ h => h) (Or.inl ⟨by rfl, ?_⟩) ?_ ?_
            rotate_left
            · intro w'; go_simp; with_reducible rfl
            rotate_left
            · simp only [Act.put, OpenRow.s1, OpenRow.s2, OpenRow.s3, i64_w, i32_w]; rfl
            refine pure_ (i := 10) (N := some 33) (v := ?_) (a' := ?_) #[true, true, true, true, true, true, true, true, true, false, true, false, false, false] rfl rfl (by kernel_rfl) (fun _ _ _ h => h) (Or.inl ⟨by rfl, ?_⟩) ?_ ?_
            rotate_left
            · intro w'; go_simp; with_reducible rfl
            rotate_left
            · simp only [Act.put, OpenRow.s1, OpenRow.s2, OpenRow.s3, i64_w, i32_w]; rfl
            refine take_ (i := 9) (N := some 32) (v := ?_) (a' := ?_) #[true, true, true, true, true, true, true, true, true, true, true, false, false, false] rfl rfl (by kernel_rfl) (fun _ _ _ h => h) (Or.inl ⟨by rfl, ?_⟩) hHeld ?_ ?_
            rotate_left
            · rintro w' ⟨s0, s1⟩
              go_simp
              with_reducible rfl
            rotate_left
            · simp only [Act.put, OpenRow.s1, OpenRow.s2, OpenRow.s3, i64_w, i32_w]; rfl
            refine take_ (i := 11) (N := some 34) (v := ?_) (a' := ?_) #[true, true, true, true, true, true, true, true, true, true, true, true, false, false] rfl rfl (by kernel_rfl) (fun _ _ _ h => h) (Or.inl ⟨by rfl, ?_⟩) hHeld ?_ ?_
            rotate_left
            · rintro w' ⟨s0, s1⟩
              go_simp
              with_reducible rfl
            rotate_left
            · simp only [Act.put, OpenRow.s1, OpenRow.s2, OpenRow.s3, i64_w, i32_w]; rfl
            refine pure_ (i := 12) (N := some 35) (v := ?_) (a' := ?_) #[true, true, true, true, true, true, true, true, true, true, true, true, true, false] rfl rfl (by kernel_rfl) (fun _ _ _ h => h) (Or.inl ⟨by rfl, ?_⟩) ?_ ?_
            rotate_left
            · intro w'; go_simp; with_reducible rfl
            rotate_left
            · simp only [Act.put, OpenRow.s1, OpenRow.s2, OpenRow.s3, i64_w, i32_w]; rfl
            refine pure_ (i := 13) (N := some 36) (v := ?_) (a' := ?_) #[true, true, true, true, true, true, true, true, true, true, true, true, true, true] rfl rfl (by kernel_rfl) (fun _ _ _ h => h) (Or.inl ⟨by rfl, ?_⟩) ?_ ?_
            rotate_left
            · intro w'; go_simp; with_reducible rfl
            rotate_left
            · simp only [Act.put, OpenRow.s1, OpenRow.s2, OpenRow.s3, i64_w, i32_w]; rfl
            refine done_ (by kernel_rfl) ?_

            go_wp2
            go_roundg (xs.length - (q + 1))
            case measure => omega
            case rel => exact ⟨q + 1, by omega, Nat.le_refl _, by go_num, ⟨Kd.R_drew HO5.out⟩, ⟨below_drew1 HB5.out⟩, ⟨HX5.out⟩⟩
          · obtain rfl : q = p := by omega
            have hlt2 : spec_l03Apply.lt (xs.getD q z74).f0 x0 = false := by rw [← hpos]; exact Ythojdfndgfpkpaa.OpenOrd.ahead_at (fun x : S74 => spec_l03Apply.lt x.f0 x0) z74 xs (by show spec_l03Apply.pos xs x0 < xs.length; omega)
            obtain ⟨k0, hk0⟩ : ∃ k0, k0 = (xs.getD q z74).f0 := ⟨_, rfl⟩
            rw [← hk0] at hy0 hlt2
            have HK0 := Aside0.mk hk0
            clear hk0
            have hlt3 : Op.bytesLess k0.toList x0.toList = false := by rw [Lib.toList_data, Lib.toList_data]; exact hlt2
            cases x2 with
            | true =>
              by_cases hkx : k0.data.toList = x0.data.toList
              · skip
                go_wp2_with fail
                refine start_ (n := 14) (S := fun w' => w'.cell? (ad5.add (q * 2)) = some (.string k0) ∧ w'.cell? ⟨gb, 0, none⟩ = some (.string x0)) (ds := []) #[false, false, false, false, false, false, false, false, false, false, false, false, false, false] (by kernel_rfl) rfl rfl ⟨hy0, b0⟩ (fun hHeld => ?_)
                refine pure_ (i := 0) (N := some 23) (v := ?_) (a' := ?_) #[true, false, false, false, false, false, false, false, false, false, false, false, false, false] rfl rfl (by kernel_rfl) (fun _ _ _ h => h) (Or.inl ⟨by rfl, ?_⟩) ?_ ?_
                rotate_left
                · intro w'; go_simp; with_reducible rfl
                rotate_left
                · simp only [Act.put, OpenRow.s1, OpenRow.s2, OpenRow.s3, i64_w, i32_w]; rfl
                refine pure_ (i := 1) (N := some 24) (v := ?_) (a' := ?_) #[true, true, false, false, false, false, false, false, false, false, false, false, false, false] rfl rfl (by kernel_rfl) (fun _ _ _ h => h) (Or.inl ⟨by rfl, ?_⟩) ?_ ?_
                rotate_left
                · intro w'; go_simp; with_reducible rfl
                rotate_left
                · simp only [Act.put, OpenRow.s1, OpenRow.s2, OpenRow.s3, i64_w, i32_w]; rfl
                refine pure_ (i := 2) (N := some 25) (v := ?_) (a' := ?_) #[true, true, true, false, false, false, false, false, false, false, false, false, false, false] rfl rfl (by kernel_rfl) (fun _ _ _ h => h) (Or.inl ⟨by rfl, ?_⟩) ?_ ?_
                rotate_left
                · intro w'; go_simp; with_reducible rfl
                rotate_left
                · simp only [Act.put, OpenRow.s1, OpenRow.s2, OpenRow.s3, i64_w, i32_w]; rfl
                refine pure_ (i := 3) (N := some 26) (v := ?_) (a' := ?_) #[true, true, true, true, false, false, false, false, false, false, false, false, false, false] rfl rfl (by kernel_rfl) (fun _ _ _ h => h) (Or.inl ⟨by rfl, ?_⟩) ?_ ?_
                rotate_left
                · intro w'; go_simp; with_reducible rfl
                rotate_left
                · simp only [Act.put, OpenRow.s1, OpenRow.s2, OpenRow.s3, i64_w, i32_w]; rfl
                refine pure_ (i := 4) (N := some 27) (v := ?_) (a' := ?_) #[true, true, true, true, true, false, false, false, false, false, false, false, false, false] rfl rfl (by kernel_rfl) (fun _ _ _ h => h) (Or.inl ⟨by rfl, ?_⟩) ?_ ?_
                rotate_left
                · intro w'; go_simp; with_reducible rfl
                rotate_left
                · simp only [Act.put, OpenRow.s1, OpenRow.s2, OpenRow.s3, i64_w, i32_w]; rfl
                refine pure_ (i := 5) (N := some 28) (v := ?_) (a' := ?_) #[true, true, true, true, true, true, false, false, false, false, false, false, false, false] rfl rfl (by kernel_rfl) (fun _ _ _ h => h) (Or.inl ⟨by rfl, ?_⟩) ?_ ?_
                rotate_left
                · intro w'; go_simp; with_reducible rfl
                rotate_left
                · simp only [Act.put, OpenRow.s1, OpenRow.s2, OpenRow.s3, i64_w, i32_w]; rfl
                refine pure_ (i := 6) (N := some 29) (v := ?_) (a' := ?_) #[true, true, true, true, true, true, true, false, false, false, false, false, false, false] rfl rfl (by kernel_rfl) (fun _ _ _ h => h) (Or.inl ⟨by rfl, ?_⟩) ?_ ?_
                rotate_left
                · intro w'; go_simp; with_reducible rfl
                rotate_left
                · simp only [Act.put, OpenRow.s1, OpenRow.s2, OpenRow.s3, i64_w, i32_w]; rfl
                refine pure_ (i := 7) (N := some 30) (v := ?_) (a' := ?_) #[true, true, true, true, true, true, true, true, false, false, false, false, false, false] rfl rfl (by kernel_rfl) (fun _ _ _ h => h) (Or.inl ⟨by rfl, ?_⟩) ?_ ?_
                rotate_left
                · intro w'; go_simp; with_reducible rfl
                rotate_left
                · simp only [Act.put, OpenRow.s1, OpenRow.s2, OpenRow.s3, i64_w, i32_w]; rfl
                refine pure_ (i := 8) (N := some 31) (v := ?_) (a' := ?_) #[true, true, true, true, true, true, true, true, true, false, false, false, false, false] rfl rfl (by kernel_rfl) (fun _ _ _ h => h) (Or.inl ⟨by rfl, ?_⟩) ?_ ?_
                rotate_left
                · intro w'; go_simp; with_reducible rfl
                rotate_left
                · simp only [Act.put, OpenRow.s1, OpenRow.s2, OpenRow.s3, i64_w, i32_w]; rfl
                refine pure_ (i := 10) (N := some 33) (v := ?_) (a' := ?_) #[true, true, true, true, true, true, true, true, true, false, true, false, false, false] rfl rfl (by kernel_rfl) (fun _ _ _ h => h) (Or.inl ⟨by rfl, ?_⟩) ?_ ?_
                rotate_left
                · intro w'; go_simp; with_reducible rfl
                rotate_left
                · simp only [Act.put, OpenRow.s1, OpenRow.s2, OpenRow.s3, i64_w, i32_w]; rfl
                refine take_ (i := 9) (N := some 32) (v := ?_) (a' := ?_) #[true, true, true, true, true, true, true, true, true, true, true, false, false, false] rfl rfl (by kernel_rfl) (fun _ _ _ h => h) (Or.inl ⟨by rfl, ?_⟩) hHeld ?_ ?_
                rotate_left
                · rintro w' ⟨s0, s1⟩
                  go_simp
                  with_reducible rfl
                rotate_left
                · simp only [Act.put, OpenRow.s1, OpenRow.s2, OpenRow.s3, i64_w, i32_w]; rfl
                refine take_ (i := 11) (N := some 34) (v := ?_) (a' := ?_) #[true, true, true, true, true, true, true, true, true, true, true, true, false, false] rfl rfl (by kernel_rfl) (fun _ _ _ h => h) (Or.inl ⟨by rfl, ?_⟩) hHeld ?_ ?_
                rotate_left
                · rintro w' ⟨s0, s1⟩
                  go_simp
                  with_reducible rfl
                rotate_left
                · simp only [Act.put, OpenRow.s1, OpenRow.s2, OpenRow.s3, i64_w, i32_w]; rfl
                refine pure_ (i := 12) (N := some 35) (v := ?_) (a' := ?_) #[true, true, true, true, true, true, true, true, true, true, true, true, true, false] rfl rfl (by kernel_rfl) (fun _ _ _ h => h) (Or.inl ⟨by rfl, ?_⟩) ?_ ?_
                rotate_left
                · intro w'; go_simp; with_reducible rfl
                rotate_left
                · simp only [Act.put, OpenRow.s1, OpenRow.s2, OpenRow.s3, i64_w, i32_w]; rfl
                refine pure_ (i := 13) (N := some 36) (v := ?_) (a' := ?_) #[true, true, true, true, true, true, true, true, true, true, true, true, true, true] rfl rfl (by kernel_rfl) (fun _ _ _ h => h) (Or.inl ⟨by rfl, ?_⟩) ?_ ?_
                rotate_left
                · intro w'; go_simp; with_reducible rfl
                rotate_left
                · simp only [Act.put, OpenRow.s1, OpenRow.s2, OpenRow.s3, i64_w, i32_w]; rfl
                refine done_ (by kernel_rfl) ?_

                obtain ⟨Wc, hWc⟩ : ∃ Wc, Wc = wr.drew := ⟨_, rfl⟩
                rw [← hWc]
                have HOc := Aside0.mk (show Kd.R k74 74 Wc w.heap.size (fun _ => True) (.slice (some ad5) xs.length c4) xs by rw [hWc]; exact Kd.R_drew HO5.out)
                have HBc := Aside0.mk (show Below w.heap.size w Wc by rw [hWc]; exact below_drew1 HB5.out)
                have HXc := Aside0.mk (show Wc.heap[gb]? = some (.cells #[.string x0, .string x1, .bool true] 88 (0, 0)) by rw [hWc]; exact HX5.out)
                clear hWc
                have hlc4 : xs.length ≤ c4 := (Kd.R_reads' HOc.out).2.1
                obtain ⟨ys, hys⟩ : ∃ ys, ys = xs.drop q := ⟨_, rfl⟩
                have hyl : ys.length = xs.length - q := by rw [hys, List.length_drop]
                obtain ⟨AD, hAD⟩ : ∃ AD, (if c4 = q then (some ad5) else ((some ad5) : Option Addr).map (·.add (q * 2))) = AD := ⟨_, rfl⟩
                have hcD := fun W => Ythojdfndgfpkpaa.OpenFlat.cut_any_l (P := Try.prog) 24 74 rfl rfl (sz := 2) rfl (some ad5) xs.length c4 W .i64 q (q : Int) rfl hpl
                rw [hAD, ← hyl] at hcD
                have hcF := fun W => Ythojdfndgfpkpaa.OpenFlat.cut_any_h (P := Try.prog) 24 74 rfl rfl (sz := 2) rfl (some ad5) xs.length c4 W .i64 q (q : Int) rfl (by omega)
                have HCD := Aside0.mk (fun W (h : Kd.C k74 W (some ad5) xs.length xs) => show Kd.C k74 W AD ys.length ys by have := Kd.C_drop h hpl hlc4; rw [← hAD, hys]; exact this)
                have HYL := Aside0.mk hyl
                have HYS := Aside0.mk hys
                clear hAD hys hyl
                go_wp2_with (first
                  | ((with_reducible refine gate_dst (N := 39) rfl ?_); refine Kd.R_lit k74 (w0 := Wc) Wc.heap.size 74 ?hg (N := 39) ?hd (xs := []) (inner := []) (ok := fun _ => True) (okp := fun _ => True) ?hr ?hp (fun _ hk => hk) trivial (Below.refl _ _) (Nat.le_refl _) (by simp) ?_; (case hd => rfl); (case hg => rfl); (case hr => first | (go_simp; done) | (go_simp; rfl)); (case hp => exact (Reps.none _ _)); intro v39 w39 ho hb hg_ hn_; have HO39 := Aside0.mk ho; have HB39 := Aside0.mk hb; clear ho hb hg_ hn_)
                  | ((with_reducible refine gate_builtin (b := .append) (xs := #[.tmp 39, .tmp 42]) rfl ?_); at_builtin; refine Kd.R_append_rows k74 (w0 := Wc) Wc.heap.size rfl (.tmp 39) (.tmp 42) 24 74 (.agg #[(.string ⟨#[]⟩), (.string ⟨#[]⟩)]) 32 rfl Try.underlying24 info74 rfl (by decide) (by decide) v39 [] ys AD ys.length (c4 - q) (fun _ => True) (fun _ => False) rfl rfl HO39.out (HCD.out _ (Kd.R_reads' (Kd.R_below HOc.out HB39.out)).2.2) (fun y cs h => by rw [k74_open h]; exact k74_mkM _ _ _ _) (fun _ h => h.elim) (fun _ _ => trivial) HB39.out HB39.out.size (by have := HLN.out; have := HYL.out; simp; omega) ?_; intro v43 w43 ho hb hg_ hn_; obtain ⟨A9, c9, rfl⟩ := Kd.R_slice ho; have HO43 := Aside0.mk ho; have HB43 := Aside0.mk hb; clear ho hb hg_ hn_))
                have HO4 := Aside0.mk (show Kd.R k74 74 w43 Wc.heap.size (fun _ => True) (.slice A9 ys.length c9) ys from HO43.out)
                have HOd := Aside0.mk (Kd.R_below HOc.out HB43.out)
                have HBd := Aside0.mk (below_step HBc.out HB43.out)
                have HXd := Aside0.mk ((HB43.out.block gb (blk_lt HXc.out)).trans HXc.out)
                have b10 : w43.cell? ⟨gb, 0, none⟩ = some (.string x0) := (blk_cell HXd.out 0).trans rfl
                have HBLK := Aside0.mk (show ∀ k k', (Value.slice A9 ys.length c9).ownBlock = some k → (Value.slice (some ad5) q c4).ownBlock = some k' → k ≠ k' from fun k k' hk hk' => by
                  have h1 := Kd.R_base HO43.out k hk
                  have h2 := ((Kd.R_bound HOc.out).1 k' (by rw [Ythojdfndgfpkpaa.OpenFlat.ownBlock_slice (some ad5) xs.length c4 q c4]; exact hk')).2.2.1
                  omega)
                have hyp : 0 < ys.length := by have := HYL.out; omega
                have hypz : (0 : Int) < (ys.length : Int) := by omega
                obtain ⟨ad9, e1, hz0, _⟩ := at_T74 (Kd.R_reads' HO4.out).2.2 (0 : Int) (by omega) (by omega)
                cases e1
                have hrd : (rd_T74 ys (0 : Int)).f0 = k0 := by
                  rw [HK0.out, HYS.out, rd_T74, List.getD_eq_getElem?_getD, List.getD_eq_getElem?_getD, List.getElem?_drop]; rfl
                rw [hrd] at hz0
                have ha0 : ad9.add ((0 : Int).toNat * 2) = ad9 := by show ad9.add 0 = ad9; unfold Addr.add; simp
                rw [ha0] at hz0
                clear hrd ha0
                have hkb : (k0.toList == x0.toList) = true := by rw [Lib.toList_data, Lib.toList_data]; exact beq_iff_eq.mpr hkx
                refine start_ (n := 12) (S := fun w' => w'.cell? ad9 = some (.string k0) ∧ w'.cell? ⟨gb, 0, none⟩ = some (.string x0)) (ds := []) #[false, false, false, false, false, false, false, false, false, false, false, false] (by kernel_rfl) rfl rfl ⟨hz0, b10⟩ (fun hHeld => ?_)
                refine pure_ (i := 0) (N := some 44) (v := ?_) (a' := ?_) #[true, false, false, false, false, false, false, false, false, false, false, false] rfl rfl (by kernel_rfl) (fun _ _ _ h => h) (Or.inl ⟨by rfl, ?_⟩) ?_ ?_
                rotate_left
                · intro w'; go_simp; with_reducible rfl
                rotate_left
                · simp only [Act.put, OpenRow.s1, OpenRow.s2, OpenRow.s3, i64_w, i32_w]; rfl
                refine pure_ (i := 1) (N := some 45) (v := ?_) (a' := ?_) #[true, true, false, false, false, false, false, false, false, false, false, false] rfl rfl (by kernel_rfl) (fun _ _ _ h => h) (Or.inl ⟨by rfl, ?_⟩) ?_ ?_
                rotate_left
                · intro w'; go_simp; with_reducible rfl
                rotate_left
                · simp only [Act.put, OpenRow.s1, OpenRow.s2, OpenRow.s3, i64_w, i32_w]; rfl
                refine pure_ (i := 2) (N := some 46) (v := ?_) (a' := ?_) #[true, true, true, false, false, false, false, false, false, false, false, false] rfl rfl (by kernel_rfl) (fun _ _ _ h => h) (Or.inl ⟨by rfl, ?_⟩) ?_ ?_
                rotate_left
                · intro w'; go_simp; with_reducible rfl
                rotate_left
                · simp only [Act.put, OpenRow.s1, OpenRow.s2, OpenRow.s3, i64_w, i32_w]; rfl
                refine pure_ (i := 3) (N := some 47) (v := ?_) (a' := ?_) #[true, true, true, true, false, false, false, false, false, false, false, false] rfl rfl (by kernel_rfl) (fun _ _ _ h => h) (Or.inl ⟨by rfl, ?_⟩) ?_ ?_
                rotate_left
                · intro w'; go_simp; with_reducible rfl
                rotate_left
                · simp only [Act.put, OpenRow.s1, OpenRow.s2, OpenRow.s3, i64_w, i32_w]; rfl
                refine pure_ (i := 4) (N := some 48) (v := ?_) (a' := ?_) #[true, true, true, true, true, false, false, false, false, false, false, false] rfl rfl (by kernel_rfl) (fun _ _ _ h => h) (Or.inl ⟨by rfl, ?_⟩) ?_ ?_
                rotate_left
                · intro w'; go_simp; with_reducible rfl
                rotate_left
                · simp only [Act.put, OpenRow.s1, OpenRow.s2, OpenRow.s3, i64_w, i32_w]; rfl
                refine pure_ (i := 5) (N := some 49) (v := ?_) (a' := ?_) #[true, true, true, true, true, true, false, false, false, false, false, false] rfl rfl (by kernel_rfl) (fun _ _ _ h => h) (Or.inl ⟨by rfl, ?_⟩) ?_ ?_
                rotate_left
                · intro w'; go_simp; with_reducible rfl
                rotate_left
                · simp only [Act.put, OpenRow.s1, OpenRow.s2, OpenRow.s3, i64_w, i32_w]; rfl
                refine pure_ (i := 6) (N := some 50) (v := ?_) (a' := ?_) #[true, true, true, true, true, true, true, false, false, false, false, false] rfl rfl (by kernel_rfl) (fun _ _ _ h => h) (Or.inl ⟨by rfl, ?_⟩) ?_ ?_
                rotate_left
                · intro w'; go_simp; with_reducible rfl
                rotate_left
                · simp only [Act.put, OpenRow.s1, OpenRow.s2, OpenRow.s3, i64_w, i32_w]; rfl
                refine pure_ (i := 8) (N := some 52) (v := ?_) (a' := ?_) #[true, true, true, true, true, true, true, false, true, false, false, false] rfl rfl (by kernel_rfl) (fun _ _ _ h => h) (Or.inl ⟨by rfl, ?_⟩) ?_ ?_
                rotate_left
                · intro w'; go_simp; with_reducible rfl
                rotate_left
                · simp only [Act.put, OpenRow.s1, OpenRow.s2, OpenRow.s3, i64_w, i32_w]; rfl
                refine take_ (i := 7) (N := some 51) (v := ?_) (a' := ?_) #[true, true, true, true, true, true, true, true, true, false, false, false] rfl rfl (by kernel_rfl) (fun _ _ _ h => h) (Or.inl ⟨by rfl, ?_⟩) hHeld ?_ ?_
                rotate_left
                · rintro w' ⟨s0, s1⟩
                  go_simp
                  with_reducible rfl
                rotate_left
                · simp only [Act.put, OpenRow.s1, OpenRow.s2, OpenRow.s3, i64_w, i32_w]; rfl
                refine take_ (i := 9) (N := some 53) (v := ?_) (a' := ?_) #[true, true, true, true, true, true, true, true, true, true, false, false] rfl rfl (by kernel_rfl) (fun _ _ _ h => h) (Or.inl ⟨by rfl, ?_⟩) hHeld ?_ ?_
                rotate_left
                · rintro w' ⟨s0, s1⟩
                  go_simp
                  with_reducible rfl
                rotate_left
                · simp only [Act.put, OpenRow.s1, OpenRow.s2, OpenRow.s3, i64_w, i32_w]; rfl
                refine pure_ (i := 10) (N := some 54) (v := ?_) (a' := ?_) #[true, true, true, true, true, true, true, true, true, true, true, false] rfl rfl (by kernel_rfl) (fun _ _ _ h => h) (Or.inl ⟨by rfl, ?_⟩) ?_ ?_
                rotate_left
                · intro w'; go_simp; with_reducible rfl
                rotate_left
                · simp only [Act.put, OpenRow.s1, OpenRow.s2, OpenRow.s3, i64_w, i32_w]; rfl
                refine pure_ (i := 11) (N := some 55) (v := ?_) (a' := ?_) #[true, true, true, true, true, true, true, true, true, true, true, true] rfl rfl (by kernel_rfl) (fun _ _ _ h => h) (Or.inl ⟨by rfl, ?_⟩) ?_ ?_
                rotate_left
                · intro w'; go_simp; with_reducible rfl
                rotate_left
                · simp only [Act.put, OpenRow.s1, OpenRow.s2, OpenRow.s3, i64_w, i32_w]; rfl
                refine done_ (by kernel_rfl) ?_

                have hhit : spec_l03Apply.hit xs x0 = true := by unfold spec_l03Apply.hit; rw [hpos, decide_eq_true (by omega), Bool.true_and]; exact decide_eq_true (by rw [← HK0.out]; exact hkx)
                have HFIN := Aside0.mk (show spec_l03Apply.step xs (⟨x0, x1, true⟩ : S88) = (xs.take q) ++ (ys.drop 1) by rw [spec_l03Apply.step, if_pos rfl, spec_l03Apply.rest, if_pos hhit, hpos, HYS.out, List.drop_drop] <;> simp [List.append_assoc])
                obtain ⟨Wd, hWd⟩ : ∃ Wd, Wd = w43.drew := ⟨_, rfl⟩
                rw [← hWd]
                have HT := Aside0.mk (show Kd.R k74 74 Wd w.heap.size (fun _ => True) (.slice (some ad5) q c4) (xs.take q) by rw [hWd]; exact Kd.R_take (Kd.R_drew HOd.out) hpl)
                have HBe := Aside0.mk (show Below w.heap.size w Wd by rw [hWd]; exact below_drew1 HBd.out)
                have HO9 := Aside0.mk (show Kd.R k74 74 Wd Wc.heap.size (fun _ => True) (.slice (some ad9) ys.length c9) ys by rw [hWd]; exact Kd.R_drew HO4.out)
                have HXe : Wd.heap[gb]? = some (.cells #[.string x0, .string x1, .bool true] 88 (0, 0)) := by rw [hWd]; exact HXd.out
                have u0 : Wd.cell? ⟨gb, 0, none⟩ = some (.string x0) := (blk_cell HXe 0).trans rfl
                have u1 : Wd.cell? ⟨gb, 1, none⟩ = some (.string x1) := (blk_cell HXe 1).trans rfl
                have u2 : Wd.cell? ⟨gb, 2, none⟩ = some (.bool true) := (blk_cell HXe 2).trans rfl
                have HYC := Aside0.mk (Kd.R_reads' HO9.out).2.1
                clear hWd hhit HXe
                have hlc9 := HYC.out
                obtain ⟨AE, hAE⟩ : ∃ AE, (if c9 = 1 then (some ad9) else ((some ad9) : Option Addr).map (·.add (1 * 2))) = AE := ⟨_, rfl⟩
                have hcE := fun W => Ythojdfndgfpkpaa.OpenFlat.cut_any_l (P := Try.prog) 24 74 rfl rfl (sz := 2) rfl (some ad9) ys.length c9 W .i64 1 (1 : Int) rfl hyp
                rw [hAE] at hcE
                have HCE := Aside0.mk (fun W (h : Kd.C k74 W (some ad9) ys.length ys) => show Kd.C k74 W AE (ys.length - 1) (ys.drop 1) by have := Kd.C_drop h hyp hlc9; rw [List.length_drop] at this; rw [← hAE]; exact this)
                clear hAE hlc9
                go_wp2_with (first
                  | ((with_reducible refine gate_builtin (b := .append) (xs := #[.tmp 72, .tmp 73]) rfl ?_); at_builtin; refine Kd.R_append_rows k74 (w0 := w) w.heap.size rfl (.tmp 72) (.tmp 73) 24 74 (.agg #[(.string ⟨#[]⟩), (.string ⟨#[]⟩)]) 32 rfl Try.underlying24 info74 rfl (by decide) (by decide) (.slice (some ad5) q c4) (xs.take q) (ys.drop 1) AE (ys.length - 1) (c9 - 1) (fun _ => True) (fun _ => False) rfl rfl HT.out (HCE.out _ (Kd.R_reads' HO9.out).2.2) (fun y cs h => by rw [k74_open h]; exact k74_mkM _ _ _ _) (fun _ h => h.elim) (fun _ _ => trivial) HBe.out HBe.out.size (by have := HLN.out; have := HYL.out; simp; omega) ?_; intro v74 w74 ho hb hg_ hn_; have HO74 := Aside0.mk ho; have HB74 := Aside0.mk hb; clear ho hb hg_ hn_))
                go_roundg (l1.length - (kk + 1))
                case measure => omega
                case rel => exact ⟨kk + 1, by omega, by omega, by go_num, ⟨by rw [HST.out, HFIN.out]; exact HO74.out⟩, HB74⟩
              · skip
                go_wp2_with fail
                refine start_ (n := 14) (S := fun w' => w'.cell? (ad5.add (q * 2)) = some (.string k0) ∧ w'.cell? ⟨gb, 0, none⟩ = some (.string x0)) (ds := []) #[false, false, false, false, false, false, false, false, false, false, false, false, false, false] (by kernel_rfl) rfl rfl ⟨hy0, b0⟩ (fun hHeld => ?_)
                refine pure_ (i := 0) (N := some 23) (v := ?_) (a' := ?_) #[true, false, false, false, false, false, false, false, false, false, false, false, false, false] rfl rfl (by kernel_rfl) (fun _ _ _ h => h) (Or.inl ⟨by rfl, ?_⟩) ?_ ?_
                rotate_left
                · intro w'; go_simp; with_reducible rfl
                rotate_left
                · simp only [Act.put, OpenRow.s1, OpenRow.s2, OpenRow.s3, i64_w, i32_w]; rfl
                refine pure_ (i := 1) (N := some 24) (v := ?_) (a' := ?_) #[true, true, false, false, false, false, false, false, false, false, false, false, false, false] rfl rfl (by kernel_rfl) (fun _ _ _ h => h) (Or.inl ⟨by rfl, ?_⟩) ?_ ?_
                rotate_left
                · intro w'; go_simp; with_reducible rfl
                rotate_left
                · simp only [Act.put, OpenRow.s1, OpenRow.s2, OpenRow.s3, i64_w, i32_w]; rfl
                refine pure_ (i := 2) (N := some 25) (v := ?_) (a' := ?_) #[true, true, true, false, false, false, false, false, false, false, false, false, false, false] rfl rfl (by kernel_rfl) (fun _ _ _ h => h) (Or.inl ⟨by rfl, ?_⟩) ?_ ?_
                rotate_left
                · intro w'; go_simp; with_reducible rfl
                rotate_left
                · simp only [Act.put, OpenRow.s1, OpenRow.s2, OpenRow.s3, i64_w, i32_w]; rfl
                refine pure_ (i := 3) (N := some 26) (v := ?_) (a' := ?_) #[true, true, true, true, false, false, false, false, false, false, false, false, false, false] rfl rfl (by kernel_rfl) (fun _ _ _ h => h) (Or.inl ⟨by rfl, ?_⟩) ?_ ?_
                rotate_left
                · intro w'; go_simp; with_reducible rfl
                rotate_left
                · simp only [Act.put, OpenRow.s1, OpenRow.s2, OpenRow.s3, i64_w, i32_w]; rfl
                refine pure_ (i := 4) (N := some 27) (v := ?_) (a' := ?_) #[true, true, true, true, true, false, false, false, false, false, false, false, false, false] rfl rfl (by kernel_rfl) (fun _ _ _ h => h) (Or.inl ⟨by rfl, ?_⟩) ?_ ?_
                rotate_left
                · intro w'; go_simp; with_reducible rfl
                rotate_left
                · simp only [Act.put, OpenRow.s1, OpenRow.s2, OpenRow.s3, i64_w, i32_w]; rfl
                refine pure_ (i := 5) (N := some 28) (v := ?_) (a' := ?_) #[true, true, true, true, true, true, false, false, false, false, false, false, false, false] rfl rfl (by kernel_rfl) (fun _ _ _ h => h) (Or.inl ⟨by rfl, ?_⟩) ?_ ?_
                rotate_left
                · intro w'; go_simp; with_reducible rfl
                rotate_left
                · simp only [Act.put, OpenRow.s1, OpenRow.s2, OpenRow.s3, i64_w, i32_w]; rfl
                refine pure_ (i := 6) (N := some 29) (v := ?_) (a' := ?_) #[true, true, true, true, true, true, true, false, false, false, false, false, false, false] rfl rfl (by kernel_rfl) (fun _ _ _ h => h) (Or.inl ⟨by rfl, ?_⟩) ?_ ?_
                rotate_left
                · intro w'; go_simp; with_reducible rfl
                rotate_left
                · simp only [Act.put, OpenRow.s1, OpenRow.s2, OpenRow.s3, i64_w, i32_w]; rfl
                refine pure_ (i := 7) (N := some 30) (v := ?_) (a' := ?_) #[true, true, true, true, true, true, true, true, false, false, false, false, false, false] rfl rfl (by kernel_rfl) (fun _ _ _ h => h) (Or.inl ⟨by rfl, ?_⟩) ?_ ?_
                rotate_left
                · intro w'; go_simp; with_reducible rfl
                rotate_left
                · simp only [Act.put, OpenRow.s1, OpenRow.s2, OpenRow.s3, i64_w, i32_w]; rfl
                refine pure_ (i := 8) (N := some 31) (v := ?_) (a' := ?_) #[true, true, true, true, true, true, true, true, true, false, false, false, false, false] rfl rfl (by kernel_rfl) (fun _ _ _ h => h) (Or.inl ⟨by rfl, ?_⟩) ?_ ?_
                rotate_left
                · intro w'; go_simp; with_reducible rfl
                rotate_left
                · simp only [Act.put, OpenRow.s1, OpenRow.s2, OpenRow.s3, i64_w, i32_w]; rfl
                refine pure_ (i := 10) (N := some 33) (v := ?_) (a' := ?_) #[true, true, true, true, true, true, true, true, true, false, true, false, false, false] rfl rfl (by kernel_rfl) (fun _ _ _ h => h) (Or.inl ⟨by rfl, ?_⟩) ?_ ?_
                rotate_left
                · intro w'; go_simp; with_reducible rfl
                rotate_left
                · simp only [Act.put, OpenRow.s1, OpenRow.s2, OpenRow.s3, i64_w, i32_w]; rfl
                refine take_ (i := 9) (N := some 32) (v := ?_) (a' := ?_) #[true, true, true, true, true, true, true, true, true, true, true, false, false, false] rfl rfl (by kernel_rfl) (fun _ _ _ h => h) (Or.inl ⟨by rfl, ?_⟩) hHeld ?_ ?_
                rotate_left
                · rintro w' ⟨s0, s1⟩
                  go_simp
                  with_reducible rfl
                rotate_left
                · simp only [Act.put, OpenRow.s1, OpenRow.s2, OpenRow.s3, i64_w, i32_w]; rfl
                refine take_ (i := 11) (N := some 34) (v := ?_) (a' := ?_) #[true, true, true, true, true, true, true, true, true, true, true, true, false, false] rfl rfl (by kernel_rfl) (fun _ _ _ h => h) (Or.inl ⟨by rfl, ?_⟩) hHeld ?_ ?_
                rotate_left
                · rintro w' ⟨s0, s1⟩
                  go_simp
                  with_reducible rfl
                rotate_left
                · simp only [Act.put, OpenRow.s1, OpenRow.s2, OpenRow.s3, i64_w, i32_w]; rfl
                refine pure_ (i := 12) (N := some 35) (v := ?_) (a' := ?_) #[true, true, true, true, true, true, true, true, true, true, true, true, true, false] rfl rfl (by kernel_rfl) (fun _ _ _ h => h) (Or.inl ⟨by rfl, ?_⟩) ?_ ?_
                rotate_left
                · intro w'; go_simp; with_reducible rfl
                rotate_left
                · simp only [Act.put, OpenRow.s1, OpenRow.s2, OpenRow.s3, i64_w, i32_w]; rfl
                refine pure_ (i := 13) (N := some 36) (v := ?_) (a' := ?_) #[true, true, true, true, true, true, true, true, true, true, true, true, true, true] rfl rfl (by kernel_rfl) (fun _ _ _ h => h) (Or.inl ⟨by rfl, ?_⟩) ?_ ?_
                rotate_left
                · intro w'; go_simp; with_reducible rfl
                rotate_left
                · simp only [Act.put, OpenRow.s1, OpenRow.s2, OpenRow.s3, i64_w, i32_w]; rfl
                refine done_ (by kernel_rfl) ?_

                obtain ⟨Wc, hWc⟩ : ∃ Wc, Wc = wr.drew := ⟨_, rfl⟩
                rw [← hWc]
                have HOc := Aside0.mk (show Kd.R k74 74 Wc w.heap.size (fun _ => True) (.slice (some ad5) xs.length c4) xs by rw [hWc]; exact Kd.R_drew HO5.out)
                have HBc := Aside0.mk (show Below w.heap.size w Wc by rw [hWc]; exact below_drew1 HB5.out)
                have HXc := Aside0.mk (show Wc.heap[gb]? = some (.cells #[.string x0, .string x1, .bool true] 88 (0, 0)) by rw [hWc]; exact HX5.out)
                clear hWc
                have hlc4 : xs.length ≤ c4 := (Kd.R_reads' HOc.out).2.1
                obtain ⟨ys, hys⟩ : ∃ ys, ys = xs.drop q := ⟨_, rfl⟩
                have hyl : ys.length = xs.length - q := by rw [hys, List.length_drop]
                obtain ⟨AD, hAD⟩ : ∃ AD, (if c4 = q then (some ad5) else ((some ad5) : Option Addr).map (·.add (q * 2))) = AD := ⟨_, rfl⟩
                have hcD := fun W => Ythojdfndgfpkpaa.OpenFlat.cut_any_l (P := Try.prog) 24 74 rfl rfl (sz := 2) rfl (some ad5) xs.length c4 W .i64 q (q : Int) rfl hpl
                rw [hAD, ← hyl] at hcD
                have hcF := fun W => Ythojdfndgfpkpaa.OpenFlat.cut_any_h (P := Try.prog) 24 74 rfl rfl (sz := 2) rfl (some ad5) xs.length c4 W .i64 q (q : Int) rfl (by omega)
                have HCD := Aside0.mk (fun W (h : Kd.C k74 W (some ad5) xs.length xs) => show Kd.C k74 W AD ys.length ys by have := Kd.C_drop h hpl hlc4; rw [← hAD, hys]; exact this)
                have HYL := Aside0.mk hyl
                have HYS := Aside0.mk hys
                clear hAD hys hyl
                go_wp2_with (first
                  | ((with_reducible refine gate_dst (N := 39) rfl ?_); refine Kd.R_lit k74 (w0 := Wc) Wc.heap.size 74 ?hg (N := 39) ?hd (xs := []) (inner := []) (ok := fun _ => True) (okp := fun _ => True) ?hr ?hp (fun _ hk => hk) trivial (Below.refl _ _) (Nat.le_refl _) (by simp) ?_; (case hd => rfl); (case hg => rfl); (case hr => first | (go_simp; done) | (go_simp; rfl)); (case hp => exact (Reps.none _ _)); intro v39 w39 ho hb hg_ hn_; have HO39 := Aside0.mk ho; have HB39 := Aside0.mk hb; clear ho hb hg_ hn_)
                  | ((with_reducible refine gate_builtin (b := .append) (xs := #[.tmp 39, .tmp 42]) rfl ?_); at_builtin; refine Kd.R_append_rows k74 (w0 := Wc) Wc.heap.size rfl (.tmp 39) (.tmp 42) 24 74 (.agg #[(.string ⟨#[]⟩), (.string ⟨#[]⟩)]) 32 rfl Try.underlying24 info74 rfl (by decide) (by decide) v39 [] ys AD ys.length (c4 - q) (fun _ => True) (fun _ => False) rfl rfl HO39.out (HCD.out _ (Kd.R_reads' (Kd.R_below HOc.out HB39.out)).2.2) (fun y cs h => by rw [k74_open h]; exact k74_mkM _ _ _ _) (fun _ h => h.elim) (fun _ _ => trivial) HB39.out HB39.out.size (by have := HLN.out; have := HYL.out; simp; omega) ?_; intro v43 w43 ho hb hg_ hn_; obtain ⟨A9, c9, rfl⟩ := Kd.R_slice ho; have HO43 := Aside0.mk ho; have HB43 := Aside0.mk hb; clear ho hb hg_ hn_))
                have HO4 := Aside0.mk (show Kd.R k74 74 w43 Wc.heap.size (fun _ => True) (.slice A9 ys.length c9) ys from HO43.out)
                have HOd := Aside0.mk (Kd.R_below HOc.out HB43.out)
                have HBd := Aside0.mk (below_step HBc.out HB43.out)
                have HXd := Aside0.mk ((HB43.out.block gb (blk_lt HXc.out)).trans HXc.out)
                have b10 : w43.cell? ⟨gb, 0, none⟩ = some (.string x0) := (blk_cell HXd.out 0).trans rfl
                have HBLK := Aside0.mk (show ∀ k k', (Value.slice A9 ys.length c9).ownBlock = some k → (Value.slice (some ad5) q c4).ownBlock = some k' → k ≠ k' from fun k k' hk hk' => by
                  have h1 := Kd.R_base HO43.out k hk
                  have h2 := ((Kd.R_bound HOc.out).1 k' (by rw [Ythojdfndgfpkpaa.OpenFlat.ownBlock_slice (some ad5) xs.length c4 q c4]; exact hk')).2.2.1
                  omega)
                have hyp : 0 < ys.length := by have := HYL.out; omega
                have hypz : (0 : Int) < (ys.length : Int) := by omega
                obtain ⟨ad9, e1, hz0, _⟩ := at_T74 (Kd.R_reads' HO4.out).2.2 (0 : Int) (by omega) (by omega)
                cases e1
                have hrd : (rd_T74 ys (0 : Int)).f0 = k0 := by
                  rw [HK0.out, HYS.out, rd_T74, List.getD_eq_getElem?_getD, List.getD_eq_getElem?_getD, List.getElem?_drop]; rfl
                rw [hrd] at hz0
                have ha0 : ad9.add ((0 : Int).toNat * 2) = ad9 := by show ad9.add 0 = ad9; unfold Addr.add; simp
                rw [ha0] at hz0
                clear hrd ha0
                have hkb : (k0.toList == x0.toList) = false := by rw [Lib.toList_data, Lib.toList_data]; exact beq_eq_false_iff_ne.mpr hkx
                refine start_ (n := 12) (S := fun w' => w'.cell? ad9 = some (.string k0) ∧ w'.cell? ⟨gb, 0, none⟩ = some (.string x0)) (ds := []) #[false, false, false, false, false, false, false, false, false, false, false, false] (by kernel_rfl) rfl rfl ⟨hz0, b10⟩ (fun hHeld => ?_)
                refine pure_ (i := 0) (N := some 44) (v := ?_) (a' := ?_) #[true, false, false, false, false, false, false, false, false, false, false, false] rfl rfl (by kernel_rfl) (fun _ _ _ h => h) (Or.inl ⟨by rfl, ?_⟩) ?_ ?_
                rotate_left
                · intro w'; go_simp; with_reducible rfl
                rotate_left
                · simp only [Act.put, OpenRow.s1, OpenRow.s2, OpenRow.s3, i64_w, i32_w]; rfl
                refine pure_ (i := 1) (N := some 45) (v := ?_) (a' := ?_) #[true, true, false, false, false, false, false, false, false, false, false, false] rfl rfl (by kernel_rfl) (fun _ _ _ h => h) (Or.inl ⟨by rfl, ?_⟩) ?_ ?_
                rotate_left
                · intro w'; go_simp; with_reducible rfl
                rotate_left
                · simp only [Act.put, OpenRow.s1, OpenRow.s2, OpenRow.s3, i64_w, i32_w]; rfl
                refine pure_ (i := 2) (N := some 46) (v := ?_) (a' := ?_) #[true, true, true, false, false, false, false, false, false, false, false, false] rfl rfl (by kernel_rfl) (fun _ _ _ h => h) (Or.inl ⟨by rfl, ?_⟩) ?_ ?_
                rotate_left
                · intro w'; go_simp; with_reducible rfl
                rotate_left
                · simp only [Act.put, OpenRow.s1, OpenRow.s2, OpenRow.s3, i64_w, i32_w]; rfl
                refine pure_ (i := 3) (N := some 47) (v := ?_) (a' := ?_) #[true, true, true, true, false, false, false, false, false, false, false, false] rfl rfl (by kernel_rfl) (fun _ _ _ h => h) (Or.inl ⟨by rfl, ?_⟩) ?_ ?_
                rotate_left
                · intro w'; go_simp; with_reducible rfl
                rotate_left
                · simp only [Act.put, OpenRow.s1, OpenRow.s2, OpenRow.s3, i64_w, i32_w]; rfl
                refine pure_ (i := 4) (N := some 48) (v := ?_) (a' := ?_) #[true, true, true, true, true, false, false, false, false, false, false, false] rfl rfl (by kernel_rfl) (fun _ _ _ h => h) (Or.inl ⟨by rfl, ?_⟩) ?_ ?_
                rotate_left
                · intro w'; go_simp; with_reducible rfl
                rotate_left
                · simp only [Act.put, OpenRow.s1, OpenRow.s2, OpenRow.s3, i64_w, i32_w]; rfl
                refine pure_ (i := 5) (N := some 49) (v := ?_) (a' := ?_) #[true, true, true, true, true, true, false, false, false, false, false, false] rfl rfl (by kernel_rfl) (fun _ _ _ h => h) (Or.inl ⟨by rfl, ?_⟩) ?_ ?_
                rotate_left
                · intro w'; go_simp; with_reducible rfl
                rotate_left
                · simp only [Act.put, OpenRow.s1, OpenRow.s2, OpenRow.s3, i64_w, i32_w]; rfl
                refine pure_ (i := 6) (N := some 50) (v := ?_) (a' := ?_) #[true, true, true, true, true, true, true, false, false, false, false, false] rfl rfl (by kernel_rfl) (fun _ _ _ h => h) (Or.inl ⟨by rfl, ?_⟩) ?_ ?_
                rotate_left
                · intro w'; go_simp; with_reducible rfl
                rotate_left
                · simp only [Act.put, OpenRow.s1, OpenRow.s2, OpenRow.s3, i64_w, i32_w]; rfl
                refine pure_ (i := 8) (N := some 52) (v := ?_) (a' := ?_) #[true, true, true, true, true, true, true, false, true, false, false, false] rfl rfl (by kernel_rfl) (fun _ _ _ h => h) (Or.inl ⟨by rfl, ?_⟩) ?_ ?_
                rotate_left
                · intro w'; go_simp; with_reducible rfl
                rotate_left
                · simp only [Act.put, OpenRow.s1, OpenRow.s2, OpenRow.s3, i64_w, i32_w]; rfl
                refine take_ (i := 7) (N := some 51) (v := ?_) (a' := ?_) #[true, true, true, true, true, true, true, true, true, false, false, false] rfl rfl (by kernel_rfl) (fun _ _ _ h => h) (Or.inl ⟨by rfl, ?_⟩) hHeld ?_ ?_
                rotate_left
                · rintro w' ⟨s0, s1⟩
                  go_simp
                  with_reducible rfl
                rotate_left
                · simp only [Act.put, OpenRow.s1, OpenRow.s2, OpenRow.s3, i64_w, i32_w]; rfl
                refine take_ (i := 9) (N := some 53) (v := ?_) (a' := ?_) #[true, true, true, true, true, true, true, true, true, true, false, false] rfl rfl (by kernel_rfl) (fun _ _ _ h => h) (Or.inl ⟨by rfl, ?_⟩) hHeld ?_ ?_
                rotate_left
                · rintro w' ⟨s0, s1⟩
                  go_simp
                  with_reducible rfl
                rotate_left
                · simp only [Act.put, OpenRow.s1, OpenRow.s2, OpenRow.s3, i64_w, i32_w]; rfl
                refine pure_ (i := 10) (N := some 54) (v := ?_) (a' := ?_) #[true, true, true, true, true, true, true, true, true, true, true, false] rfl rfl (by kernel_rfl) (fun _ _ _ h => h) (Or.inl ⟨by rfl, ?_⟩) ?_ ?_
                rotate_left
                · intro w'; go_simp; with_reducible rfl
                rotate_left
                · simp only [Act.put, OpenRow.s1, OpenRow.s2, OpenRow.s3, i64_w, i32_w]; rfl
                refine pure_ (i := 11) (N := some 55) (v := ?_) (a' := ?_) #[true, true, true, true, true, true, true, true, true, true, true, true] rfl rfl (by kernel_rfl) (fun _ _ _ h => h) (Or.inl ⟨by rfl, ?_⟩) ?_ ?_
                rotate_left
                · intro w'; go_simp; with_reducible rfl
                rotate_left
                · simp only [Act.put, OpenRow.s1, OpenRow.s2, OpenRow.s3, i64_w, i32_w]; rfl
                refine done_ (by kernel_rfl) ?_

                have hhit : spec_l03Apply.hit xs x0 = false := by unfold spec_l03Apply.hit; rw [hpos, decide_eq_true (by omega), Bool.true_and]; exact decide_eq_false (by rw [← HK0.out]; exact hkx)
                have HFIN := Aside0.mk (show spec_l03Apply.step xs (⟨x0, x1, true⟩ : S88) = (xs.take q) ++ (ys) by rw [spec_l03Apply.step, if_pos rfl, spec_l03Apply.rest, if_neg (by rw [hhit]; simp), hpos, HYS.out] <;> simp [List.append_assoc])
                obtain ⟨Wd, hWd⟩ : ∃ Wd, Wd = w43.drew := ⟨_, rfl⟩
                rw [← hWd]
                have HT := Aside0.mk (show Kd.R k74 74 Wd w.heap.size (fun _ => True) (.slice (some ad5) q c4) (xs.take q) by rw [hWd]; exact Kd.R_take (Kd.R_drew HOd.out) hpl)
                have HBe := Aside0.mk (show Below w.heap.size w Wd by rw [hWd]; exact below_drew1 HBd.out)
                have HO9 := Aside0.mk (show Kd.R k74 74 Wd Wc.heap.size (fun _ => True) (.slice (some ad9) ys.length c9) ys by rw [hWd]; exact Kd.R_drew HO4.out)
                have HXe : Wd.heap[gb]? = some (.cells #[.string x0, .string x1, .bool true] 88 (0, 0)) := by rw [hWd]; exact HXd.out
                have u0 : Wd.cell? ⟨gb, 0, none⟩ = some (.string x0) := (blk_cell HXe 0).trans rfl
                have u1 : Wd.cell? ⟨gb, 1, none⟩ = some (.string x1) := (blk_cell HXe 1).trans rfl
                have u2 : Wd.cell? ⟨gb, 2, none⟩ = some (.bool true) := (blk_cell HXe 2).trans rfl
                have HYC := Aside0.mk (Kd.R_reads' HO9.out).2.1
                clear hWd hhit HXe
                go_wp2_with (first
                  | ((with_reducible refine gate_builtin (b := .append) (xs := #[.tmp 72, .tmp 73]) rfl ?_); at_builtin; refine Kd.R_append_rows k74 (w0 := w) w.heap.size rfl (.tmp 72) (.tmp 73) 24 74 (.agg #[(.string ⟨#[]⟩), (.string ⟨#[]⟩)]) 32 rfl Try.underlying24 info74 rfl (by decide) (by decide) (.slice (some ad5) q c4) (xs.take q) (ys) (some ad9) ys.length c9 (fun _ => True) (fun _ => False) rfl rfl HT.out (Kd.R_reads' HO9.out).2.2 (fun y cs h => by rw [k74_open h]; exact k74_mkM _ _ _ _) (fun _ h => h.elim) (fun _ _ => trivial) HBe.out HBe.out.size (by have := HLN.out; have := HYL.out; simp; omega) ?_; intro v74 w74 ho hb hg_ hn_; have HO74 := Aside0.mk ho; have HB74 := Aside0.mk hb; clear ho hb hg_ hn_))
                go_roundg (l1.length - (kk + 1))
                case measure => omega
                case rel => exact ⟨kk + 1, by omega, by omega, by go_num, ⟨by rw [HST.out, HFIN.out]; exact HO74.out⟩, HB74⟩
            | false =>
              by_cases hkx : k0.data.toList = x0.data.toList
              · skip
                go_wp2_with fail
                refine start_ (n := 14) (S := fun w' => w'.cell? (ad5.add (q * 2)) = some (.string k0) ∧ w'.cell? ⟨gb, 0, none⟩ = some (.string x0)) (ds := []) #[false, false, false, false, false, false, false, false, false, false, false, false, false, false] (by kernel_rfl) rfl rfl ⟨hy0, b0⟩ (fun hHeld => ?_)
                refine pure_ (i := 0) (N := some 23) (v := ?_) (a' := ?_) #[true, false, false, false, false, false, false, false, false, false, false, false, false, false] rfl rfl (by kernel_rfl) (fun _ _ _ h => h) (Or.inl ⟨by rfl, ?_⟩) ?_ ?_
                rotate_left
                · intro w'; go_simp; with_reducible rfl
                rotate_left
                · simp only [Act.put, OpenRow.s1, OpenRow.s2, OpenRow.s3, i64_w, i32_w]; rfl
                refine pure_ (i := 1) (N := some 24) (v := ?_) (a' := ?_) #[true, true, false, false, false, false, false, false, false, false, false, false, false, false] rfl rfl (by kernel_rfl) (fun _ _ _ h => h) (Or.inl ⟨by rfl, ?_⟩) ?_ ?_
                rotate_left
                · intro w'; go_simp; with_reducible rfl
                rotate_left
                · simp only [Act.put, OpenRow.s1, OpenRow.s2, OpenRow.s3, i64_w, i32_w]; rfl
                refine pure_ (i := 2) (N := some 25) (v := ?_) (a' := ?_) #[true, true, true, false, false, false, false, false, false, false, false, false, false, false] rfl rfl (by kernel_rfl) (fun _ _ _ h => h) (Or.inl ⟨by rfl, ?_⟩) ?_ ?_
                rotate_left
                · intro w'; go_simp; with_reducible rfl
                rotate_left
                · simp only [Act.put, OpenRow.s1, OpenRow.s2, OpenRow.s3, i64_w, i32_w]; rfl
                refine pure_ (i := 3) (N := some 26) (v := ?_) (a' := ?_) #[true, true, true, true, false, false, false, false, false, false, false, false, false, false] rfl rfl (by kernel_rfl) (fun _ _ _ h => h) (Or.inl ⟨by rfl, ?_⟩) ?_ ?_
                rotate_left
                · intro w'; go_simp; with_reducible rfl
                rotate_left
                · simp only [Act.put, OpenRow.s1, OpenRow.s2, OpenRow.s3, i64_w, i32_w]; rfl
                refine pure_ (i := 4) (N := some 27) (v := ?_) (a' := ?_) #[true, true, true, true, true, false, false, false, false, false, false, false, false, false] rfl rfl (by kernel_rfl) (fun _ _ _ h => h) (Or.inl ⟨by rfl, ?_⟩) ?_ ?_
                rotate_left
                · intro w'; go_simp; with_reducible rfl
                rotate_left
                · simp only [Act.put, OpenRow.s1, OpenRow.s2, OpenRow.s3, i64_w, i32_w]; rfl
                refine pure_ (i := 5) (N := some 28) (v := ?_) (a' := ?_) #[true, true, true, true, true, true, false, false, false, false, false, false, false, false] rfl rfl (by kernel_rfl) (fun _ _ _ h => h) (Or.inl ⟨by rfl, ?_⟩) ?_ ?_
                rotate_left
                · intro w'; go_simp; with_reducible rfl
                rotate_left
                · simp only [Act.put, OpenRow.s1, OpenRow.s2, OpenRow.s3, i64_w, i32_w]; rfl
                refine pure_ (i := 6) (N := some 29) (v := ?_) (a' := ?_) #[true, true, true, true, true, true, true, false, false, false, false, false, false, false] rfl rfl (by kernel_rfl) (fun _ _ _ h => h) (Or.inl ⟨by rfl, ?_⟩) ?_ ?_
                rotate_left
                · intro w'; go_simp; with_reducible rfl
                rotate_left
                · simp only [Act.put, OpenRow.s1, OpenRow.s2, OpenRow.s3, i64_w, i32_w]; rfl
                refine pure_ (i := 7) (N := some 30) (v := ?_) (a' := ?_) #[true, true, true, true, true, true, true, true, false, false, false, false, false, false] rfl rfl (by kernel_rfl) (fun _ _ _ h => h) (Or.inl ⟨by rfl, ?_⟩) ?_ ?_
                rotate_left
                · intro w'; go_simp; with_reducible rfl
                rotate_left
                · simp only [Act.put, OpenRow.s1, OpenRow.s2, OpenRow.s3, i64_w, i32_w]; rfl
                refine pure_ (i := 8) (N := some 31) (v := ?_) (a' := ?_) #[true, true, true, true, true, true, true, true, true, false, false, false, false, false] rfl rfl (by kernel_rfl) (fun _ _ _ h => h) (Or.inl ⟨by rfl, ?_⟩) ?_ ?_
                rotate_left
                · intro w'; go_simp; with_reducible rfl
                rotate_left
                · simp only [Act.put, OpenRow.s1, OpenRow.s2, OpenRow.s3, i64_w, i32_w]; rfl
                refine pure_ (i := 10) (N := some 33) (v := ?_) (a' := ?_) #[true, true, true, true, true, true, true, true, true, false, true, false, false, false] rfl rfl (by kernel_rfl) (fun _ _ _ h => h) (Or.inl ⟨by rfl, ?_⟩) ?_ ?_
                rotate_left
                · intro w'; go_simp; with_reducible rfl
                rotate_left
                · simp only [Act.put, OpenRow.s1, OpenRow.s2, OpenRow.s3, i64_w, i32_w]; rfl
                refine take_ (i := 9) (N := some 32) (v := ?_) (a' := ?_) #[true, true, true, true, true, true, true, true, true, true, true, false, false, false] rfl rfl (by kernel_rfl) (fun _ _ _ h => h) (Or.inl ⟨by rfl, ?_⟩) hHeld ?_ ?_
                rotate_left
                · rintro w' ⟨s0, s1⟩
                  go_simp
                  with_reducible rfl
                rotate_left
                · simp only [Act.put, OpenRow.s1, OpenRow.s2, OpenRow.s3, i64_w, i32_w]; rfl
                refine take_ (i := 11) (N := some 34) (v := ?_) (a' := ?_) #[true, true, true, true, true, true, true, true, true, true, true, true, false, false] rfl rfl (by kernel_rfl) (fun _ _ _ h => h) (Or.inl ⟨by rfl, ?_⟩) hHeld ?_ ?_
                rotate_left
                · rintro w' ⟨s0, s1⟩
                  go_simp
                  with_reducible rfl
                rotate_left
                · simp only [Act.put, OpenRow.s1, OpenRow.s2, OpenRow.s3, i64_w, i32_w]; rfl
                refine pure_ (i := 12) (N := some 35) (v := ?_) (a' := ?_) #[true, true, true, true, true, true, true, true, true, true, true, true, true, false] rfl rfl (by kernel_rfl) (fun _ _ _ h => h) (Or.inl ⟨by rfl, ?_⟩) ?_ ?_
                rotate_left
                · intro w'; go_simp; with_reducible rfl
                rotate_left
                · simp only [Act.put, OpenRow.s1, OpenRow.s2, OpenRow.s3, i64_w, i32_w]; rfl
                refine pure_ (i := 13) (N := some 36) (v := ?_) (a' := ?_) #[true, true, true, true, true, true, true, true, true, true, true, true, true, true] rfl rfl (by kernel_rfl) (fun _ _ _ h => h) (Or.inl ⟨by rfl, ?_⟩) ?_ ?_
                rotate_left
                · intro w'; go_simp; with_reducible rfl
                rotate_left
                · simp only [Act.put, OpenRow.s1, OpenRow.s2, OpenRow.s3, i64_w, i32_w]; rfl
                refine done_ (by kernel_rfl) ?_

                obtain ⟨Wc, hWc⟩ : ∃ Wc, Wc = wr.drew := ⟨_, rfl⟩
                rw [← hWc]
                have HOc := Aside0.mk (show Kd.R k74 74 Wc w.heap.size (fun _ => True) (.slice (some ad5) xs.length c4) xs by rw [hWc]; exact Kd.R_drew HO5.out)
                have HBc := Aside0.mk (show Below w.heap.size w Wc by rw [hWc]; exact below_drew1 HB5.out)
                have HXc := Aside0.mk (show Wc.heap[gb]? = some (.cells #[.string x0, .string x1, .bool false] 88 (0, 0)) by rw [hWc]; exact HX5.out)
                clear hWc
                have hlc4 : xs.length ≤ c4 := (Kd.R_reads' HOc.out).2.1
                obtain ⟨ys, hys⟩ : ∃ ys, ys = xs.drop q := ⟨_, rfl⟩
                have hyl : ys.length = xs.length - q := by rw [hys, List.length_drop]
                obtain ⟨AD, hAD⟩ : ∃ AD, (if c4 = q then (some ad5) else ((some ad5) : Option Addr).map (·.add (q * 2))) = AD := ⟨_, rfl⟩
                have hcD := fun W => Ythojdfndgfpkpaa.OpenFlat.cut_any_l (P := Try.prog) 24 74 rfl rfl (sz := 2) rfl (some ad5) xs.length c4 W .i64 q (q : Int) rfl hpl
                rw [hAD, ← hyl] at hcD
                have hcF := fun W => Ythojdfndgfpkpaa.OpenFlat.cut_any_h (P := Try.prog) 24 74 rfl rfl (sz := 2) rfl (some ad5) xs.length c4 W .i64 q (q : Int) rfl (by omega)
                have HCD := Aside0.mk (fun W (h : Kd.C k74 W (some ad5) xs.length xs) => show Kd.C k74 W AD ys.length ys by have := Kd.C_drop h hpl hlc4; rw [← hAD, hys]; exact this)
                have HYL := Aside0.mk hyl
                have HYS := Aside0.mk hys
                clear hAD hys hyl
                go_wp2_with (first
                  | ((with_reducible refine gate_dst (N := 39) rfl ?_); refine Kd.R_lit k74 (w0 := Wc) Wc.heap.size 74 ?hg (N := 39) ?hd (xs := []) (inner := []) (ok := fun _ => True) (okp := fun _ => True) ?hr ?hp (fun _ hk => hk) trivial (Below.refl _ _) (Nat.le_refl _) (by simp) ?_; (case hd => rfl); (case hg => rfl); (case hr => first | (go_simp; done) | (go_simp; rfl)); (case hp => exact (Reps.none _ _)); intro v39 w39 ho hb hg_ hn_; have HO39 := Aside0.mk ho; have HB39 := Aside0.mk hb; clear ho hb hg_ hn_)
                  | ((with_reducible refine gate_builtin (b := .append) (xs := #[.tmp 39, .tmp 42]) rfl ?_); at_builtin; refine Kd.R_append_rows k74 (w0 := Wc) Wc.heap.size rfl (.tmp 39) (.tmp 42) 24 74 (.agg #[(.string ⟨#[]⟩), (.string ⟨#[]⟩)]) 32 rfl Try.underlying24 info74 rfl (by decide) (by decide) v39 [] ys AD ys.length (c4 - q) (fun _ => True) (fun _ => False) rfl rfl HO39.out (HCD.out _ (Kd.R_reads' (Kd.R_below HOc.out HB39.out)).2.2) (fun y cs h => by rw [k74_open h]; exact k74_mkM _ _ _ _) (fun _ h => h.elim) (fun _ _ => trivial) HB39.out HB39.out.size (by have := HLN.out; have := HYL.out; simp; omega) ?_; intro v43 w43 ho hb hg_ hn_; obtain ⟨A9, c9, rfl⟩ := Kd.R_slice ho; have HO43 := Aside0.mk ho; have HB43 := Aside0.mk hb; clear ho hb hg_ hn_))
                have HO4 := Aside0.mk (show Kd.R k74 74 w43 Wc.heap.size (fun _ => True) (.slice A9 ys.length c9) ys from HO43.out)
                have HOd := Aside0.mk (Kd.R_below HOc.out HB43.out)
                have HBd := Aside0.mk (below_step HBc.out HB43.out)
                have HXd := Aside0.mk ((HB43.out.block gb (blk_lt HXc.out)).trans HXc.out)
                have b10 : w43.cell? ⟨gb, 0, none⟩ = some (.string x0) := (blk_cell HXd.out 0).trans rfl
                have HBLK := Aside0.mk (show ∀ k k', (Value.slice A9 ys.length c9).ownBlock = some k → (Value.slice (some ad5) q c4).ownBlock = some k' → k ≠ k' from fun k k' hk hk' => by
                  have h1 := Kd.R_base HO43.out k hk
                  have h2 := ((Kd.R_bound HOc.out).1 k' (by rw [Ythojdfndgfpkpaa.OpenFlat.ownBlock_slice (some ad5) xs.length c4 q c4]; exact hk')).2.2.1
                  omega)
                have hyp : 0 < ys.length := by have := HYL.out; omega
                have hypz : (0 : Int) < (ys.length : Int) := by omega
                obtain ⟨ad9, e1, hz0, _⟩ := at_T74 (Kd.R_reads' HO4.out).2.2 (0 : Int) (by omega) (by omega)
                cases e1
                have hrd : (rd_T74 ys (0 : Int)).f0 = k0 := by
                  rw [HK0.out, HYS.out, rd_T74, List.getD_eq_getElem?_getD, List.getD_eq_getElem?_getD, List.getElem?_drop]; rfl
                rw [hrd] at hz0
                have ha0 : ad9.add ((0 : Int).toNat * 2) = ad9 := by show ad9.add 0 = ad9; unfold Addr.add; simp
                rw [ha0] at hz0
                clear hrd ha0
                have hkb : (k0.toList == x0.toList) = true := by rw [Lib.toList_data, Lib.toList_data]; exact beq_iff_eq.mpr hkx
                refine start_ (n := 12) (S := fun w' => w'.cell? ad9 = some (.string k0) ∧ w'.cell? ⟨gb, 0, none⟩ = some (.string x0)) (ds := []) #[false, false, false, false, false, false, false, false, false, false, false, false] (by kernel_rfl) rfl rfl ⟨hz0, b10⟩ (fun hHeld => ?_)
                refine pure_ (i := 0) (N := some 44) (v := ?_) (a' := ?_) #[true, false, false, false, false, false, false, false, false, false, false, false] rfl rfl (by kernel_rfl) (fun _ _ _ h => h) (Or.inl ⟨by rfl, ?_⟩) ?_ ?_
                rotate_left
                · intro w'; go_simp; with_reducible rfl
                rotate_left
                · simp only [Act.put, OpenRow.s1, OpenRow.s2, OpenRow.s3, i64_w, i32_w]; rfl
                refine pure_ (i := 1) (N := some 45) (v := ?_) (a' := ?_) #[true, true, false, false, false, false, false, false, false, false, false, false] rfl rfl (by kernel_rfl) (fun _ _ _ h => h) (Or.inl ⟨by rfl, ?_⟩) ?_ ?_
                rotate_left
                · intro w'; go_simp; with_reducible rfl
                rotate_left
                · simp only [Act.put, OpenRow.s1, OpenRow.s2, OpenRow.s3, i64_w, i32_w]; rfl
                refine pure_ (i := 2) (N := some 46) (v := ?_) (a' := ?_) #[true, true, true, false, false, false, false, false, false, false, false, false] rfl rfl (by kernel_rfl) (fun _ _ _ h => h) (Or.inl ⟨by rfl, ?_⟩) ?_ ?_
                rotate_left
                · intro w'; go_simp; with_reducible rfl
                rotate_left
                · simp only [Act.put, OpenRow.s1, OpenRow.s2, OpenRow.s3, i64_w, i32_w]; rfl
                refine pure_ (i := 3) (N := some 47) (v := ?_) (a' := ?_) #[true, true, true, true, false, false, false, false, false, false, false, false] rfl rfl (by kernel_rfl) (fun _ _ _ h => h) (Or.inl ⟨by rfl, ?_⟩) ?_ ?_
                rotate_left
                · intro w'; go_simp; with_reducible rfl
                rotate_left
                · simp only [Act.put, OpenRow.s1, OpenRow.s2, OpenRow.s3, i64_w, i32_w]; rfl
                refine pure_ (i := 4) (N := some 48) (v := ?_) (a' := ?_) #[true, true, true, true, true, false, false, false, false, false, false, false] rfl rfl (by kernel_rfl) (fun _ _ _ h => h) (Or.inl ⟨by rfl, ?_⟩) ?_ ?_
                rotate_left
                · intro w'; go_simp; with_reducible rfl
                rotate_left
                · simp only [Act.put, OpenRow.s1, OpenRow.s2, OpenRow.s3, i64_w, i32_w]; rfl
                refine pure_ (i := 5) (N := some 49) (v := ?_) (a' := ?_) #[true, true, true, true, true, true, false, false, false, false, false, false] rfl rfl (by kernel_rfl) (fun _ _ _ h => h) (Or.inl ⟨by rfl, ?_⟩) ?_ ?_
                rotate_left
                · intro w'; go_simp; with_reducible rfl
                rotate_left
                · simp only [Act.put, OpenRow.s1, OpenRow.s2, OpenRow.s3, i64_w, i32_w]; rfl
                refine pure_ (i := 6) (N := some 50) (v := ?_) (a' := ?_) #[true, true, true, true, true, true, true, false, false, false, false, false] rfl rfl (by kernel_rfl) (fun _ _ _ h => h) (Or.inl ⟨by rfl, ?_⟩) ?_ ?_
                rotate_left
                · intro w'; go_simp; with_reducible rfl
                rotate_left
                · simp only [Act.put, OpenRow.s1, OpenRow.s2, OpenRow.s3, i64_w, i32_w]; rfl
                refine pure_ (i := 8) (N := some 52) (v := ?_) (a' := ?_) #[true, true, true, true, true, true, true, false, true, false, false, false] rfl rfl (by kernel_rfl) (fun _ _ _ h => h) (Or.inl ⟨by rfl, ?_⟩) ?_ ?_
                rotate_left
                · intro w'; go_simp; with_reducible rfl
                rotate_left
                · simp only [Act.put, OpenRow.s1, OpenRow.s2, OpenRow.s3, i64_w, i32_w]; rfl
                refine take_ (i := 7) (N := some 51) (v := ?_) (a' := ?_) #[true, true, true, true, true, true, true, true, true, false, false, false] rfl rfl (by kernel_rfl) (fun _ _ _ h => h) (Or.inl ⟨by rfl, ?_⟩) hHeld ?_ ?_
                rotate_left
                · rintro w' ⟨s0, s1⟩
                  go_simp
                  with_reducible rfl
                rotate_left
                · simp only [Act.put, OpenRow.s1, OpenRow.s2, OpenRow.s3, i64_w, i32_w]; rfl
                refine take_ (i := 9) (N := some 53) (v := ?_) (a' := ?_) #[true, true, true, true, true, true, true, true, true, true, false, false] rfl rfl (by kernel_rfl) (fun _ _ _ h => h) (Or.inl ⟨by rfl, ?_⟩) hHeld ?_ ?_
                rotate_left
                · rintro w' ⟨s0, s1⟩
                  go_simp
                  with_reducible rfl
                rotate_left
                · simp only [Act.put, OpenRow.s1, OpenRow.s2, OpenRow.s3, i64_w, i32_w]; rfl
                refine pure_ (i := 10) (N := some 54) (v := ?_) (a' := ?_) #[true, true, true, true, true, true, true, true, true, true, true, false] rfl rfl (by kernel_rfl) (fun _ _ _ h => h) (Or.inl ⟨by rfl, ?_⟩) ?_ ?_
                rotate_left
                · intro w'; go_simp; with_reducible rfl
                rotate_left
                · simp only [Act.put, OpenRow.s1, OpenRow.s2, OpenRow.s3, i64_w, i32_w]; rfl
                refine pure_ (i := 11) (N := some 55) (v := ?_) (a' := ?_) #[true, true, true, true, true, true, true, true, true, true, true, true] rfl rfl (by kernel_rfl) (fun _ _ _ h => h) (Or.inl ⟨by rfl, ?_⟩) ?_ ?_
                rotate_left
                · intro w'; go_simp; with_reducible rfl
                rotate_left
                · simp only [Act.put, OpenRow.s1, OpenRow.s2, OpenRow.s3, i64_w, i32_w]; rfl
                refine done_ (by kernel_rfl) ?_

                have hhit : spec_l03Apply.hit xs x0 = true := by unfold spec_l03Apply.hit; rw [hpos, decide_eq_true (by omega), Bool.true_and]; exact decide_eq_true (by rw [← HK0.out]; exact hkx)
                have HFIN := Aside0.mk (show spec_l03Apply.step xs (⟨x0, x1, false⟩ : S88) = (xs.take q ++ [(⟨x0, x1⟩ : S74)]) ++ (ys.drop 1) by rw [spec_l03Apply.step, if_neg (by simp), spec_l03Apply.rest, if_pos hhit, hpos, HYS.out, List.drop_drop] <;> simp [List.append_assoc])
                obtain ⟨Wd, hWd⟩ : ∃ Wd, Wd = w43.drew := ⟨_, rfl⟩
                rw [← hWd]
                have HT := Aside0.mk (show Kd.R k74 74 Wd w.heap.size (fun _ => True) (.slice (some ad5) q c4) (xs.take q) by rw [hWd]; exact Kd.R_take (Kd.R_drew HOd.out) hpl)
                have HBe := Aside0.mk (show Below w.heap.size w Wd by rw [hWd]; exact below_drew1 HBd.out)
                have HO9 := Aside0.mk (show Kd.R k74 74 Wd Wc.heap.size (fun _ => True) (.slice (some ad9) ys.length c9) ys by rw [hWd]; exact Kd.R_drew HO4.out)
                have HXe : Wd.heap[gb]? = some (.cells #[.string x0, .string x1, .bool false] 88 (0, 0)) := by rw [hWd]; exact HXd.out
                have u0 : Wd.cell? ⟨gb, 0, none⟩ = some (.string x0) := (blk_cell HXe 0).trans rfl
                have u1 : Wd.cell? ⟨gb, 1, none⟩ = some (.string x1) := (blk_cell HXe 1).trans rfl
                have u2 : Wd.cell? ⟨gb, 2, none⟩ = some (.bool false) := (blk_cell HXe 2).trans rfl
                have HYC := Aside0.mk (Kd.R_reads' HO9.out).2.1
                clear hWd hhit HXe
                have hlc9 := HYC.out
                obtain ⟨AE, hAE⟩ : ∃ AE, (if c9 = 1 then (some ad9) else ((some ad9) : Option Addr).map (·.add (1 * 2))) = AE := ⟨_, rfl⟩
                have hcE := fun W => Ythojdfndgfpkpaa.OpenFlat.cut_any_l (P := Try.prog) 24 74 rfl rfl (sz := 2) rfl (some ad9) ys.length c9 W .i64 1 (1 : Int) rfl hyp
                rw [hAE] at hcE
                have HCE := Aside0.mk (fun W (h : Kd.C k74 W (some ad9) ys.length ys) => show Kd.C k74 W AE (ys.length - 1) (ys.drop 1) by have := Kd.C_drop h hyp hlc9; rw [List.length_drop] at this; rw [← hAE]; exact this)
                clear hAE hlc9
                go_wp2_with (first
                  | ((with_reducible refine gate_builtin (b := .append) (xs := #[.tmp 64, .tmp 70]) rfl ?_); at_builtin; refine Kd.R_append k74 (w0 := w) w.heap.size rfl (.tmp 64) (.tmp 70) 24 74 (.agg #[(.string ⟨#[]⟩), (.string ⟨#[]⟩)]) 32 rfl Try.underlying24 info74 rfl (by decide) (by decide) (.slice (some ad5) q c4) (xs.take q) (⟨x0, x1⟩ : S74) [.string x0, .string x1] (fun _ => True) (fun _ => False) rfl rfl (k74_mkM _ _ _ (⟨x0, x1⟩ : S74)) (fun _ hk => hk.elim) (fun _ _ => trivial) HT.out HBe.out HBe.out.size (by have := HLN.out; simp; omega) ?_; intro v71 w71 ho hb hg_ hat_; have HO71 := Aside0.mk ho; have HB71 := Aside0.mk hb; have HR71 := Aside0.mk (Ythojdfndgfpkpaa.OpenFlat.R_kept spec_l03Apply.flat HO9.out hg_ (fun k hk he => HBLK.out k k hk he.symm rfl)); clear ho hb hg_ hat_)
                  | ((with_reducible refine gate_builtin (b := .append) (xs := #[.tmp 72, .tmp 73]) rfl ?_); at_builtin; refine Kd.R_append_rows k74 (w0 := w) w.heap.size rfl (.tmp 72) (.tmp 73) 24 74 (.agg #[(.string ⟨#[]⟩), (.string ⟨#[]⟩)]) 32 rfl Try.underlying24 info74 rfl (by decide) (by decide) v71 (xs.take q ++ [(⟨x0, x1⟩ : S74)]) (ys.drop 1) AE (ys.length - 1) (c9 - 1) (fun _ => True) (fun _ => False) rfl rfl HO71.out (HCE.out _ (Kd.R_reads' HR71.out).2.2) (fun y cs h => by rw [k74_open h]; exact k74_mkM _ _ _ _) (fun _ h => h.elim) (fun _ _ => trivial) HB71.out HB71.out.size (by have := HLN.out; have := HYL.out; simp; omega) ?_; intro v74 w74 ho hb hg_ hn_; have HO74 := Aside0.mk ho; have HB74 := Aside0.mk hb; clear ho hb hg_ hn_))
                go_roundg (l1.length - (kk + 1))
                case measure => omega
                case rel => exact ⟨kk + 1, by omega, by omega, by go_num, ⟨by rw [HST.out, HFIN.out]; exact HO74.out⟩, HB74⟩
              · skip
                go_wp2_with fail
                refine start_ (n := 14) (S := fun w' => w'.cell? (ad5.add (q * 2)) = some (.string k0) ∧ w'.cell? ⟨gb, 0, none⟩ = some (.string x0)) (ds := []) #[false, false, false, false, false, false, false, false, false, false, false, false, false, false] (by kernel_rfl) rfl rfl ⟨hy0, b0⟩ (fun hHeld => ?_)
                refine pure_ (i := 0) (N := some 23) (v := ?_) (a' := ?_) #[true, false, false, false, false, false, false, false, false, false, false, false, false, false] rfl rfl (by kernel_rfl) (fun _ _ _ h => h) (Or.inl ⟨by rfl, ?_⟩) ?_ ?_
                rotate_left
                · intro w'; go_simp; with_reducible rfl
                rotate_left
                · simp only [Act.put, OpenRow.s1, OpenRow.s2, OpenRow.s3, i64_w, i32_w]; rfl
                refine pure_ (i := 1) (N := some 24) (v := ?_) (a' := ?_) #[true, true, false, false, false, false, false, false, false, false, false, false, false, false] rfl rfl (by kernel_rfl) (fun _ _ _ h => h) (Or.inl ⟨by rfl, ?_⟩) ?_ ?_
                rotate_left
                · intro w'; go_simp; with_reducible rfl
                rotate_left
                · simp only [Act.put, OpenRow.s1, OpenRow.s2, OpenRow.s3, i64_w, i32_w]; rfl
                refine pure_ (i := 2) (N := some 25) (v := ?_) (a' := ?_) #[true, true, true, false, false, false, false, false, false, false, false, false, false, false] rfl rfl (by kernel_rfl) (fun _ _ _ h => h) (Or.inl ⟨by rfl, ?_⟩) ?_ ?_
                rotate_left
                · intro w'; go_simp; with_reducible rfl
                rotate_left
                · simp only [Act.put, OpenRow.s1, OpenRow.s2, OpenRow.s3, i64_w, i32_w]; rfl
                refine pure_ (i := 3) (N := some 26) (v := ?_) (a' := ?_) #[true, true, true, true, false, false, false, false, false, false, false, false, false, false] rfl rfl (by kernel_rfl) (fun _ _ _ h => h) (Or.inl ⟨by rfl, ?_⟩) ?_ ?_
                rotate_left
                · intro w'; go_simp; with_reducible rfl
                rotate_left
                · simp only [Act.put, OpenRow.s1, OpenRow.s2, OpenRow.s3, i64_w, i32_w]; rfl
                refine pure_ (i := 4) (N := some 27) (v := ?_) (a' := ?_) #[true, true, true, true, true, false, false, false, false, false, false, false, false, false] rfl rfl (by kernel_rfl) (fun _ _ _ h => h) (Or.inl ⟨by rfl, ?_⟩) ?_ ?_
                rotate_left
                · intro w'; go_simp; with_reducible rfl
                rotate_left
                · simp only [Act.put, OpenRow.s1, OpenRow.s2, OpenRow.s3, i64_w, i32_w]; rfl
                refine pure_ (i := 5) (N := some 28) (v := ?_) (a' := ?_) #[true, true, true, true, true, true, false, false, false, false, false, false, false, false] rfl rfl (by kernel_rfl) (fun _ _ _ h => h) (Or.inl ⟨by rfl, ?_⟩) ?_ ?_
                rotate_left
                · intro w'; go_simp; with_reducible rfl
                rotate_left
                · simp only [Act.put, OpenRow.s1, OpenRow.s2, OpenRow.s3, i64_w, i32_w]; rfl
                refine pure_ (i := 6) (N := some 29) (v := ?_) (a' := ?_) #[true, true, true, true, true, true, true, false, false, false, false, false, false, false] rfl rfl (by kernel_rfl) (fun _ _ _ h => h) (Or.inl ⟨by rfl, ?_⟩) ?_ ?_
                rotate_left
                · intro w'; go_simp; with_reducible rfl
                rotate_left
                · simp only [Act.put, OpenRow.s1, OpenRow.s2, OpenRow.s3, i64_w, i32_w]; rfl
                refine pure_ (i := 7) (N := some 30) (v := ?_) (a' := ?_) #[true, true, true, true, true, true, true, true, false, false, false, false, false, false] rfl rfl (by kernel_rfl) (fun _ _ _ h => h) (Or.inl ⟨by rfl, ?_⟩) ?_ ?_
                rotate_left
                · intro w'; go_simp; with_reducible rfl
                rotate_left
                · simp only [Act.put, OpenRow.s1, OpenRow.s2, OpenRow.s3, i64_w, i32_w]; rfl
                refine pure_ (i := 8) (N := some 31) (v := ?_) (a' := ?_) #[true, true, true, true, true, true, true, true, true, false, false, false, false, false] rfl rfl (by kernel_rfl) (fun _ _ _ h => h) (Or.inl ⟨by rfl, ?_⟩) ?_ ?_
                rotate_left
                · intro w'; go_simp; with_reducible rfl
                rotate_left
                · simp only [Act.put, OpenRow.s1, OpenRow.s2, OpenRow.s3, i64_w, i32_w]; rfl
                refine pure_ (i := 10) (N := some 33) (v := ?_) (a' := ?_) #[true, true, true, true, true, true, true, true, true, false, true, false, false, false] rfl rfl (by kernel_rfl) (fun _ _ _ h => h) (Or.inl ⟨by rfl, ?_⟩) ?_ ?_
                rotate_left
                · intro w'; go_simp; with_reducible rfl
                rotate_left
                · simp only [Act.put, OpenRow.s1, OpenRow.s2, OpenRow.s3, i64_w, i32_w]; rfl
                refine take_ (i := 9) (N := some 32) (v := ?_) (a' := ?_) #[true, true, true, true, true, true, true, true, true, true, true, false, false, false] rfl rfl (by kernel_rfl) (fun _ _ _ h => h) (Or.inl ⟨by rfl, ?_⟩) hHeld ?_ ?_
                rotate_left
                · rintro w' ⟨s0, s1⟩
                  go_simp
                  with_reducible rfl
                rotate_left
                · simp only [Act.put, OpenRow.s1, OpenRow.s2, OpenRow.s3, i64_w, i32_w]; rfl
                refine take_ (i := 11) (N := some 34) (v := ?_) (a' := ?_) #[true, true, true, true, true, true, true, true, true, true, true, true, false, false] rfl rfl (by kernel_rfl) (fun _ _ _ h => h) (Or.inl ⟨by rfl, ?_⟩) hHeld ?_ ?_
                rotate_left
                · rintro w' ⟨s0, s1⟩
                  go_simp
                  with_reducible rfl
                rotate_left
                · simp only [Act.put, OpenRow.s1, OpenRow.s2, OpenRow.s3, i64_w, i32_w]; rfl
                refine pure_ (i := 12) (N := some 35) (v := ?_) (a' := ?_) #[true, true, true, true, true, true, true, true, true, true, true, true, true, false] rfl rfl (by kernel_rfl) (fun _ _ _ h => h) (Or.inl ⟨by rfl, ?_⟩) ?_ ?_
                rotate_left
                · intro w'; go_simp; with_reducible rfl
                rotate_left
                · simp only [Act.put, OpenRow.s1, OpenRow.s2, OpenRow.s3, i64_w, i32_w]; rfl
                refine pure_ (i := 13) (N := some 36) (v := ?_) (a' := ?_) #[true, true, true, true, true, true, true, true, true, true, true, true, true, true] rfl rfl (by kernel_rfl) (fun _ _ _ h => h) (Or.inl ⟨by rfl, ?_⟩) ?_ ?_
                rotate_left
                · intro w'; go_simp; with_reducible rfl
                rotate_left
                · simp only [Act.put, OpenRow.s1, OpenRow.s2, OpenRow.s3, i64_w, i32_w]; rfl
                refine done_ (by kernel_rfl) ?_

                obtain ⟨Wc, hWc⟩ : ∃ Wc, Wc = wr.drew := ⟨_, rfl⟩
                rw [← hWc]
                have HOc := Aside0.mk (show Kd.R k74 74 Wc w.heap.size (fun _ => True) (.slice (some ad5) xs.length c4) xs by rw [hWc]; exact Kd.R_drew HO5.out)
                have HBc := Aside0.mk (show Below w.heap.size w Wc by rw [hWc]; exact below_drew1 HB5.out)
                have HXc := Aside0.mk (show Wc.heap[gb]? = some (.cells #[.string x0, .string x1, .bool false] 88 (0, 0)) by rw [hWc]; exact HX5.out)
                clear hWc
                have hlc4 : xs.length ≤ c4 := (Kd.R_reads' HOc.out).2.1
                obtain ⟨ys, hys⟩ : ∃ ys, ys = xs.drop q := ⟨_, rfl⟩
                have hyl : ys.length = xs.length - q := by rw [hys, List.length_drop]
                obtain ⟨AD, hAD⟩ : ∃ AD, (if c4 = q then (some ad5) else ((some ad5) : Option Addr).map (·.add (q * 2))) = AD := ⟨_, rfl⟩
                have hcD := fun W => Ythojdfndgfpkpaa.OpenFlat.cut_any_l (P := Try.prog) 24 74 rfl rfl (sz := 2) rfl (some ad5) xs.length c4 W .i64 q (q : Int) rfl hpl
                rw [hAD, ← hyl] at hcD
                have hcF := fun W => Ythojdfndgfpkpaa.OpenFlat.cut_any_h (P := Try.prog) 24 74 rfl rfl (sz := 2) rfl (some ad5) xs.length c4 W .i64 q (q : Int) rfl (by omega)
                have HCD := Aside0.mk (fun W (h : Kd.C k74 W (some ad5) xs.length xs) => show Kd.C k74 W AD ys.length ys by have := Kd.C_drop h hpl hlc4; rw [← hAD, hys]; exact this)
                have HYL := Aside0.mk hyl
                have HYS := Aside0.mk hys
                clear hAD hys hyl
                go_wp2_with (first
                  | ((with_reducible refine gate_dst (N := 39) rfl ?_); refine Kd.R_lit k74 (w0 := Wc) Wc.heap.size 74 ?hg (N := 39) ?hd (xs := []) (inner := []) (ok := fun _ => True) (okp := fun _ => True) ?hr ?hp (fun _ hk => hk) trivial (Below.refl _ _) (Nat.le_refl _) (by simp) ?_; (case hd => rfl); (case hg => rfl); (case hr => first | (go_simp; done) | (go_simp; rfl)); (case hp => exact (Reps.none _ _)); intro v39 w39 ho hb hg_ hn_; have HO39 := Aside0.mk ho; have HB39 := Aside0.mk hb; clear ho hb hg_ hn_)
                  | ((with_reducible refine gate_builtin (b := .append) (xs := #[.tmp 39, .tmp 42]) rfl ?_); at_builtin; refine Kd.R_append_rows k74 (w0 := Wc) Wc.heap.size rfl (.tmp 39) (.tmp 42) 24 74 (.agg #[(.string ⟨#[]⟩), (.string ⟨#[]⟩)]) 32 rfl Try.underlying24 info74 rfl (by decide) (by decide) v39 [] ys AD ys.length (c4 - q) (fun _ => True) (fun _ => False) rfl rfl HO39.out (HCD.out _ (Kd.R_reads' (Kd.R_below HOc.out HB39.out)).2.2) (fun y cs h => by rw [k74_open h]; exact k74_mkM _ _ _ _) (fun _ h => h.elim) (fun _ _ => trivial) HB39.out HB39.out.size (by have := HLN.out; have := HYL.out; simp; omega) ?_; intro v43 w43 ho hb hg_ hn_; obtain ⟨A9, c9, rfl⟩ := Kd.R_slice ho; have HO43 := Aside0.mk ho; have HB43 := Aside0.mk hb; clear ho hb hg_ hn_))
                have HO4 := Aside0.mk (show Kd.R k74 74 w43 Wc.heap.size (fun _ => True) (.slice A9 ys.length c9) ys from HO43.out)
                have HOd := Aside0.mk (Kd.R_below HOc.out HB43.out)
                have HBd := Aside0.mk (below_step HBc.out HB43.out)
                have HXd := Aside0.mk ((HB43.out.block gb (blk_lt HXc.out)).trans HXc.out)
                have b10 : w43.cell? ⟨gb, 0, none⟩ = some (.string x0) := (blk_cell HXd.out 0).trans rfl
                have HBLK := Aside0.mk (show ∀ k k', (Value.slice A9 ys.length c9).ownBlock = some k → (Value.slice (some ad5) q c4).ownBlock = some k' → k ≠ k' from fun k k' hk hk' => by
                  have h1 := Kd.R_base HO43.out k hk
                  have h2 := ((Kd.R_bound HOc.out).1 k' (by rw [Ythojdfndgfpkpaa.OpenFlat.ownBlock_slice (some ad5) xs.length c4 q c4]; exact hk')).2.2.1
                  omega)
                have hyp : 0 < ys.length := by have := HYL.out; omega
                have hypz : (0 : Int) < (ys.length : Int) := by omega
                obtain ⟨ad9, e1, hz0, _⟩ := at_T74 (Kd.R_reads' HO4.out).2.2 (0 : Int) (by omega) (by omega)
                cases e1
                have hrd : (rd_T74 ys (0 : Int)).f0 = k0 := by
                  rw [HK0.out, HYS.out, rd_T74, List.getD_eq_getElem?_getD, List.getD_eq_getElem?_getD, List.getElem?_drop]; rfl
                rw [hrd] at hz0
                have ha0 : ad9.add ((0 : Int).toNat * 2) = ad9 := by show ad9.add 0 = ad9; unfold Addr.add; simp
                rw [ha0] at hz0
                clear hrd ha0
                have hkb : (k0.toList == x0.toList) = false := by rw [Lib.toList_data, Lib.toList_data]; exact beq_eq_false_iff_ne.mpr hkx
                refine start_ (n := 12) (S := fun w' => w'.cell? ad9 = some (.string k0) ∧ w'.cell? ⟨gb, 0, none⟩ = some (.string x0)) (ds := []) #[false, false, false, false, false, false, false, false, false, false, false, false] (by kernel_rfl) rfl rfl ⟨hz0, b10⟩ (fun hHeld => ?_)
                refine pure_ (i := 0) (N := some 44) (v := ?_) (a' := ?_) #[true, false, false, false, false, false, false, false, false, false, false, false] rfl rfl (by kernel_rfl) (fun _ _ _ h => h) (Or.inl ⟨by rfl, ?_⟩) ?_ ?_
                rotate_left
                · intro w'; go_simp; with_reducible rfl
                rotate_left
                · simp only [Act.put, OpenRow.s1, OpenRow.s2, OpenRow.s3, i64_w, i32_w]; rfl
                refine pure_ (i := 1) (N := some 45) (v := ?_) (a' := ?_) #[true, true, false, false, false, false, false, false, false, false, false, false] rfl rfl (by kernel_rfl) (fun _ _ _ h => h) (Or.inl ⟨by rfl, ?_⟩) ?_ ?_
                rotate_left
                · intro w'; go_simp; with_reducible rfl
                rotate_left
                · simp only [Act.put, OpenRow.s1, OpenRow.s2, OpenRow.s3, i64_w, i32_w]; rfl
                refine pure_ (i := 2) (N := some 46) (v := ?_) (a' := ?_) #[true, true, true, false, false, false, false, false, false, false, false, false] rfl rfl (by kernel_rfl) (fun _ _ _ h => h) (Or.inl ⟨by rfl, ?_⟩) ?_ ?_
                rotate_left
                · intro w'; go_simp; with_reducible rfl
                rotate_left
                · simp only [Act.put, OpenRow.s1, OpenRow.s2, OpenRow.s3, i64_w, i32_w]; rfl
                refine pure_ (i := 3) (N := some 47) (v := ?_) (a' := ?_) #[true, true, true, true, false, false, false, false, false, false, false, false] rfl rfl (by kernel_rfl) (fun _ _ _ h => h) (Or.inl ⟨by rfl, ?_⟩) ?_ ?_
                rotate_left
                · intro w'; go_simp; with_reducible rfl
                rotate_left
                · simp only [Act.put, OpenRow.s1, OpenRow.s2, OpenRow.s3, i64_w, i32_w]; rfl
                refine pure_ (i := 4) (N := some 48) (v := ?_) (a' := ?_) #[true, true, true, true, true, false, false, false, false, false, false, false] rfl rfl (by kernel_rfl) (fun _ _ _ h => h) (Or.inl ⟨by rfl, ?_⟩) ?_ ?_
                rotate_left
                · intro w'; go_simp; with_reducible rfl
                rotate_left
                · simp only [Act.put, OpenRow.s1, OpenRow.s2, OpenRow.s3, i64_w, i32_w]; rfl
                refine pure_ (i := 5) (N := some 49) (v := ?_) (a' := ?_) #[true, true, true, true, true, true, false, false, false, false, false, false] rfl rfl (by kernel_rfl) (fun _ _ _ h => h) (Or.inl ⟨by rfl, ?_⟩) ?_ ?_
                rotate_left
                · intro w'; go_simp; with_reducible rfl
                rotate_left
                · simp only [Act.put, OpenRow.s1, OpenRow.s2, OpenRow.s3, i64_w, i32_w]; rfl
                refine pure_ (i := 6) (N := some 50) (v := ?_) (a' := ?_) #[true, true, true, true, true, true, true, false, false, false, false, false] rfl rfl (by kernel_rfl) (fun _ _ _ h => h) (Or.inl ⟨by rfl, ?_⟩) ?_ ?_
                rotate_left
                · intro w'; go_simp; with_reducible rfl
                rotate_left
                · simp only [Act.put, OpenRow.s1, OpenRow.s2, OpenRow.s3, i64_w, i32_w]; rfl
                refine pure_ (i := 8) (N := some 52) (v := ?_) (a' := ?_) #[true, true, true, true, true, true, true, false, true, false, false, false] rfl rfl (by kernel_rfl) (fun _ _ _ h => h) (Or.inl ⟨by rfl, ?_⟩) ?_ ?_
                rotate_left
                · intro w'; go_simp; with_reducible rfl
                rotate_left
                · simp only [Act.put, OpenRow.s1, OpenRow.s2, OpenRow.s3, i64_w, i32_w]; rfl
                refine take_ (i := 7) (N := some 51) (v := ?_) (a' := ?_) #[true, true, true, true, true, true, true, true, true, false, false, false] rfl rfl (by kernel_rfl) (fun _ _ _ h => h) (Or.inl ⟨by rfl, ?_⟩) hHeld ?_ ?_
                rotate_left
                · rintro w' ⟨s0, s1⟩
                  go_simp
                  with_reducible rfl
                rotate_left
                · simp only [Act.put, OpenRow.s1, OpenRow.s2, OpenRow.s3, i64_w, i32_w]; rfl
                refine take_ (i := 9) (N := some 53) (v := ?_) (a' := ?_) #[true, true, true, true, true, true, true, true, true, true, false, false] rfl rfl (by kernel_rfl) (fun _ _ _ h => h) (Or.inl ⟨by rfl, ?_⟩) hHeld ?_ ?_
                rotate_left
                · rintro w' ⟨s0, s1⟩
                  go_simp
                  with_reducible rfl
                rotate_left
                · simp only [Act.put, OpenRow.s1, OpenRow.s2, OpenRow.s3, i64_w, i32_w]; rfl
                refine pure_ (i := 10) (N := some 54) (v := ?_) (a' := ?_) #[true, true, true, true, true, true, true, true, true, true, true, false] rfl rfl (by kernel_rfl) (fun _ _ _ h => h) (Or.inl ⟨by rfl, ?_⟩) ?_ ?_
                rotate_left
                · intro w'; go_simp; with_reducible rfl
                rotate_left
                · simp only [Act.put, OpenRow.s1, OpenRow.s2, OpenRow.s3, i64_w, i32_w]; rfl
                refine pure_ (i := 11) (N := some 55) (v := ?_) (a' := ?_) #[true, true, true, true, true, true, true, true, true, true, true, true] rfl rfl (by kernel_rfl) (fun _ _ _ h => h) (Or.inl ⟨by rfl, ?_⟩) ?_ ?_
                rotate_left
                · intro w'; go_simp; with_reducible rfl
                rotate_left
                · simp only [Act.put, OpenRow.s1, OpenRow.s2, OpenRow.s3, i64_w, i32_w]; rfl
                refine done_ (by kernel_rfl) ?_

                have hhit : spec_l03Apply.hit xs x0 = false := by unfold spec_l03Apply.hit; rw [hpos, decide_eq_true (by omega), Bool.true_and]; exact decide_eq_false (by rw [← HK0.out]; exact hkx)
                have HFIN := Aside0.mk (show spec_l03Apply.step xs (⟨x0, x1, false⟩ : S88) = (xs.take q ++ [(⟨x0, x1⟩ : S74)]) ++ (ys) by rw [spec_l03Apply.step, if_neg (by simp), spec_l03Apply.rest, if_neg (by rw [hhit]; simp), hpos, HYS.out] <;> simp [List.append_assoc])
                obtain ⟨Wd, hWd⟩ : ∃ Wd, Wd = w43.drew := ⟨_, rfl⟩
                rw [← hWd]
                have HT := Aside0.mk (show Kd.R k74 74 Wd w.heap.size (fun _ => True) (.slice (some ad5) q c4) (xs.take q) by rw [hWd]; exact Kd.R_take (Kd.R_drew HOd.out) hpl)
                have HBe := Aside0.mk (show Below w.heap.size w Wd by rw [hWd]; exact below_drew1 HBd.out)
                have HO9 := Aside0.mk (show Kd.R k74 74 Wd Wc.heap.size (fun _ => True) (.slice (some ad9) ys.length c9) ys by rw [hWd]; exact Kd.R_drew HO4.out)
                have HXe : Wd.heap[gb]? = some (.cells #[.string x0, .string x1, .bool false] 88 (0, 0)) := by rw [hWd]; exact HXd.out
                have u0 : Wd.cell? ⟨gb, 0, none⟩ = some (.string x0) := (blk_cell HXe 0).trans rfl
                have u1 : Wd.cell? ⟨gb, 1, none⟩ = some (.string x1) := (blk_cell HXe 1).trans rfl
                have u2 : Wd.cell? ⟨gb, 2, none⟩ = some (.bool false) := (blk_cell HXe 2).trans rfl
                have HYC := Aside0.mk (Kd.R_reads' HO9.out).2.1
                clear hWd hhit HXe
                go_wp2_with (first
                  | ((with_reducible refine gate_builtin (b := .append) (xs := #[.tmp 64, .tmp 70]) rfl ?_); at_builtin; refine Kd.R_append k74 (w0 := w) w.heap.size rfl (.tmp 64) (.tmp 70) 24 74 (.agg #[(.string ⟨#[]⟩), (.string ⟨#[]⟩)]) 32 rfl Try.underlying24 info74 rfl (by decide) (by decide) (.slice (some ad5) q c4) (xs.take q) (⟨x0, x1⟩ : S74) [.string x0, .string x1] (fun _ => True) (fun _ => False) rfl rfl (k74_mkM _ _ _ (⟨x0, x1⟩ : S74)) (fun _ hk => hk.elim) (fun _ _ => trivial) HT.out HBe.out HBe.out.size (by have := HLN.out; simp; omega) ?_; intro v71 w71 ho hb hg_ hat_; have HO71 := Aside0.mk ho; have HB71 := Aside0.mk hb; have HR71 := Aside0.mk (Ythojdfndgfpkpaa.OpenFlat.R_kept spec_l03Apply.flat HO9.out hg_ (fun k hk he => HBLK.out k k hk he.symm rfl)); clear ho hb hg_ hat_)
                  | ((with_reducible refine gate_builtin (b := .append) (xs := #[.tmp 72, .tmp 73]) rfl ?_); at_builtin; refine Kd.R_append_rows k74 (w0 := w) w.heap.size rfl (.tmp 72) (.tmp 73) 24 74 (.agg #[(.string ⟨#[]⟩), (.string ⟨#[]⟩)]) 32 rfl Try.underlying24 info74 rfl (by decide) (by decide) v71 (xs.take q ++ [(⟨x0, x1⟩ : S74)]) (ys) (some ad9) ys.length c9 (fun _ => True) (fun _ => False) rfl rfl HO71.out (Kd.R_reads' HR71.out).2.2 (fun y cs h => by rw [k74_open h]; exact k74_mkM _ _ _ _) (fun _ h => h.elim) (fun _ _ => trivial) HB71.out HB71.out.size (by have := HLN.out; have := HYL.out; simp; omega) ?_; intro v74 w74 ho hb hg_ hn_; have HO74 := Aside0.mk ho; have HB74 := Aside0.mk hb; clear ho hb hg_ hn_))
                go_roundg (l1.length - (kk + 1))
                case measure => omega
                case rel => exact ⟨kk + 1, by omega, by omega, by go_num, ⟨by rw [HST.out, HFIN.out]; exact HO74.out⟩, HB74⟩
        · have hqz : ¬ (q : Int) < (xs.length : Int) := by omega
          obtain rfl : q = p := by omega
          cases x2 with
          | true =>
            go_wp2_with fail
            refine start_ (n := 14) (S := fun w' => w'.cell? ⟨gb, 0, none⟩ = some (.string x0)) (ds := []) #[false, false, false, false, false, false, false, false, false, false, false, false, false, false] (by kernel_rfl) rfl rfl (b0) (fun hHeld => ?_)
            refine pure_ (i := 0) (N := some 23) (v := ?_) (a' := ?_) #[true, false, false, false, false, false, false, false, false, false, false, false, false, false] rfl rfl (by kernel_rfl) (fun _ _ _ h => h) (Or.inl ⟨by rfl, ?_⟩) ?_ ?_
            rotate_left
            · intro w'; go_simp; with_reducible rfl
            rotate_left
            · simp only [Act.put, OpenRow.s1, OpenRow.s2, OpenRow.s3, i64_w, i32_w]; rfl
            refine pure_ (i := 1) (N := some 24) (v := ?_) (a' := ?_) #[true, true, false, false, false, false, false, false, false, false, false, false, false, false] rfl rfl (by kernel_rfl) (fun _ _ _ h => h) (Or.inl ⟨by rfl, ?_⟩) ?_ ?_
            rotate_left
            · intro w'; go_simp; with_reducible rfl
            rotate_left
            · simp only [Act.put, OpenRow.s1, OpenRow.s2, OpenRow.s3, i64_w, i32_w]; rfl
            refine pure_ (i := 2) (N := some 25) (v := ?_) (a' := ?_) #[true, true, true, false, false, false, false, false, false, false, false, false, false, false] rfl rfl (by kernel_rfl) (fun _ _ _ h => h) (Or.inl ⟨by rfl, ?_⟩) ?_ ?_
            rotate_left
            · intro w'; go_simp; with_reducible rfl
            rotate_left
            · simp only [Act.put, OpenRow.s1, OpenRow.s2, OpenRow.s3, i64_w, i32_w]; rfl
            refine pure_ (i := 3) (N := some 26) (v := ?_) (a' := ?_) #[true, true, true, true, false, false, false, false, false, false, false, false, false, false] rfl rfl (by kernel_rfl) (fun _ _ _ h => h) (Or.inl ⟨by rfl, ?_⟩) ?_ ?_
            rotate_left
            · intro w'; go_simp; with_reducible rfl
            rotate_left
            · simp only [Act.put, OpenRow.s1, OpenRow.s2, OpenRow.s3, i64_w, i32_w]; rfl
            refine pure_ (i := 4) (N := some 27) (v := ?_) (a' := ?_) #[true, true, true, true, true, false, false, false, false, false, false, false, false, false] rfl rfl (by kernel_rfl) (fun _ _ _ h => h) (Or.inl ⟨by rfl, ?_⟩) ?_ ?_
            rotate_left
            · intro w'; go_simp; with_reducible rfl
            rotate_left
            · simp only [Act.put, OpenRow.s1, OpenRow.s2, OpenRow.s3, i64_w, i32_w]; rfl
            refine pure_ (i := 5) (N := some 28) (v := undef) (a' := ?_) #[true, true, true, true, true, true, false, false, false, false, false, false, false, false] rfl rfl (by kernel_rfl) (fun _ _ _ h => h) (Or.inr ⟨by rfl, rfl⟩) ?_ ?_
            rotate_left
            · simp only [Act.put, OpenRow.s1, OpenRow.s2, OpenRow.s3, i64_w, i32_w]; rfl
            refine pure_ (i := 6) (N := some 29) (v := undef) (a' := ?_) #[true, true, true, true, true, true, true, false, false, false, false, false, false, false] rfl rfl (by kernel_rfl) (fun _ _ _ h => h) (Or.inr ⟨by rfl, rfl⟩) ?_ ?_
            rotate_left
            · simp only [Act.put, OpenRow.s1, OpenRow.s2, OpenRow.s3, i64_w, i32_w]; rfl
            refine pure_ (i := 7) (N := some 30) (v := undef) (a' := ?_) #[true, true, true, true, true, true, true, true, false, false, false, false, false, false] rfl rfl (by kernel_rfl) (fun _ _ _ h => h) (Or.inr ⟨by rfl, rfl⟩) ?_ ?_
            rotate_left
            · simp only [Act.put, OpenRow.s1, OpenRow.s2, OpenRow.s3, i64_w, i32_w]; rfl
            refine pure_ (i := 8) (N := some 31) (v := undef) (a' := ?_) #[true, true, true, true, true, true, true, true, true, false, false, false, false, false] rfl rfl (by kernel_rfl) (fun _ _ _ h => h) (Or.inr ⟨by rfl, rfl⟩) ?_ ?_
            rotate_left
            · simp only [Act.put, OpenRow.s1, OpenRow.s2, OpenRow.s3, i64_w, i32_w]; rfl
            refine pure_ (i := 9) (N := some 32) (v := undef) (a' := ?_) #[true, true, true, true, true, true, true, true, true, true, false, false, false, false] rfl rfl (by kernel_rfl) (fun _ _ _ h => h) (Or.inr ⟨by rfl, rfl⟩) ?_ ?_
            rotate_left
            · simp only [Act.put, OpenRow.s1, OpenRow.s2, OpenRow.s3, i64_w, i32_w]; rfl
            refine pure_ (i := 10) (N := some 33) (v := undef) (a' := ?_) #[true, true, true, true, true, true, true, true, true, true, true, false, false, false] rfl rfl (by kernel_rfl) (fun _ _ _ h => h) (Or.inr ⟨by rfl, rfl⟩) ?_ ?_
            rotate_left
            · simp only [Act.put, OpenRow.s1, OpenRow.s2, OpenRow.s3, i64_w, i32_w]; rfl
            refine pure_ (i := 11) (N := some 34) (v := undef) (a' := ?_) #[true, true, true, true, true, true, true, true, true, true, true, true, false, false] rfl rfl (by kernel_rfl) (fun _ _ _ h => h) (Or.inr ⟨by rfl, rfl⟩) ?_ ?_
            rotate_left
            · simp only [Act.put, OpenRow.s1, OpenRow.s2, OpenRow.s3, i64_w, i32_w]; rfl
            refine pure_ (i := 12) (N := some 35) (v := undef) (a' := ?_) #[true, true, true, true, true, true, true, true, true, true, true, true, true, false] rfl rfl (by kernel_rfl) (fun _ _ _ h => h) (Or.inr ⟨by rfl, rfl⟩) ?_ ?_
            rotate_left
            · simp only [Act.put, OpenRow.s1, OpenRow.s2, OpenRow.s3, i64_w, i32_w]; rfl
            refine pure_ (i := 13) (N := some 36) (v := ?_) (a' := ?_) #[true, true, true, true, true, true, true, true, true, true, true, true, true, true] rfl rfl (by kernel_rfl) (fun _ _ _ h => h) (Or.inl ⟨by rfl, ?_⟩) ?_ ?_
            rotate_left
            · intro w'; go_simp; with_reducible rfl
            rotate_left
            · simp only [Act.put, OpenRow.s1, OpenRow.s2, OpenRow.s3, i64_w, i32_w]; rfl
            refine done_ (by kernel_rfl) ?_

            obtain ⟨Wc, hWc⟩ : ∃ Wc, Wc = wr.drew := ⟨_, rfl⟩
            rw [← hWc]
            have HOc := Aside0.mk (show Kd.R k74 74 Wc w.heap.size (fun _ => True) (.slice A4 xs.length c4) xs by rw [hWc]; exact Kd.R_drew HO5.out)
            have HBc := Aside0.mk (show Below w.heap.size w Wc by rw [hWc]; exact below_drew1 HB5.out)
            have HXc := Aside0.mk (show Wc.heap[gb]? = some (.cells #[.string x0, .string x1, .bool true] 88 (0, 0)) by rw [hWc]; exact HX5.out)
            clear hWc
            have hlc4 : xs.length ≤ c4 := (Kd.R_reads' HOc.out).2.1
            obtain ⟨ys, hys⟩ : ∃ ys, ys = xs.drop q := ⟨_, rfl⟩
            have hyl : ys.length = xs.length - q := by rw [hys, List.length_drop]
            obtain ⟨AD, hAD⟩ : ∃ AD, (if c4 = q then A4 else (A4 : Option Addr).map (·.add (q * 2))) = AD := ⟨_, rfl⟩
            have hcD := fun W => Ythojdfndgfpkpaa.OpenFlat.cut_any_l (P := Try.prog) 24 74 rfl rfl (sz := 2) rfl A4 xs.length c4 W .i64 q (q : Int) rfl hpl
            rw [hAD, ← hyl] at hcD
            have hcF := fun W => Ythojdfndgfpkpaa.OpenFlat.cut_any_h (P := Try.prog) 24 74 rfl rfl (sz := 2) rfl A4 xs.length c4 W .i64 q (q : Int) rfl (by omega)
            have HCD := Aside0.mk (fun W (h : Kd.C k74 W A4 xs.length xs) => show Kd.C k74 W AD ys.length ys by have := Kd.C_drop h hpl hlc4; rw [← hAD, hys]; exact this)
            have HYL := Aside0.mk hyl
            have HYS := Aside0.mk hys
            clear hAD hys hyl
            go_wp2_with (first
              | ((with_reducible refine gate_dst (N := 39) rfl ?_); refine Kd.R_lit k74 (w0 := Wc) Wc.heap.size 74 ?hg (N := 39) ?hd (xs := []) (inner := []) (ok := fun _ => True) (okp := fun _ => True) ?hr ?hp (fun _ hk => hk) trivial (Below.refl _ _) (Nat.le_refl _) (by simp) ?_; (case hd => rfl); (case hg => rfl); (case hr => first | (go_simp; done) | (go_simp; rfl)); (case hp => exact (Reps.none _ _)); intro v39 w39 ho hb hg_ hn_; have HO39 := Aside0.mk ho; have HB39 := Aside0.mk hb; clear ho hb hg_ hn_)
              | ((with_reducible refine gate_builtin (b := .append) (xs := #[.tmp 39, .tmp 42]) rfl ?_); at_builtin; refine Kd.R_append_rows k74 (w0 := Wc) Wc.heap.size rfl (.tmp 39) (.tmp 42) 24 74 (.agg #[(.string ⟨#[]⟩), (.string ⟨#[]⟩)]) 32 rfl Try.underlying24 info74 rfl (by decide) (by decide) v39 [] ys AD ys.length (c4 - q) (fun _ => True) (fun _ => False) rfl rfl HO39.out (HCD.out _ (Kd.R_reads' (Kd.R_below HOc.out HB39.out)).2.2) (fun y cs h => by rw [k74_open h]; exact k74_mkM _ _ _ _) (fun _ h => h.elim) (fun _ _ => trivial) HB39.out HB39.out.size (by have := HLN.out; have := HYL.out; simp; omega) ?_; intro v43 w43 ho hb hg_ hn_; obtain ⟨A9, c9, rfl⟩ := Kd.R_slice ho; have HO43 := Aside0.mk ho; have HB43 := Aside0.mk hb; clear ho hb hg_ hn_))
            have HO4 := Aside0.mk (show Kd.R k74 74 w43 Wc.heap.size (fun _ => True) (.slice A9 ys.length c9) ys from HO43.out)
            have HOd := Aside0.mk (Kd.R_below HOc.out HB43.out)
            have HBd := Aside0.mk (below_step HBc.out HB43.out)
            have HXd := Aside0.mk ((HB43.out.block gb (blk_lt HXc.out)).trans HXc.out)
            have b10 : w43.cell? ⟨gb, 0, none⟩ = some (.string x0) := (blk_cell HXd.out 0).trans rfl
            have HBLK := Aside0.mk (show ∀ k k', (Value.slice A9 ys.length c9).ownBlock = some k → (Value.slice A4 q c4).ownBlock = some k' → k ≠ k' from fun k k' hk hk' => by
              have h1 := Kd.R_base HO43.out k hk
              have h2 := ((Kd.R_bound HOc.out).1 k' (by rw [Ythojdfndgfpkpaa.OpenFlat.ownBlock_slice A4 xs.length c4 q c4]; exact hk')).2.2.1
              omega)
            have hy0z : ¬ (0 : Int) < (ys.length : Int) := by have := HYL.out; omega
            have hy0g : ¬ ((ys.length : Int) > 0) := by have := HYL.out; omega
            have hy0n : ¬ 0 < ys.length := by have := HYL.out; omega
            refine start_ (n := 12) (S := fun w' => w'.cell? ⟨gb, 0, none⟩ = some (.string x0)) (ds := []) #[false, false, false, false, false, false, false, false, false, false, false, false] (by kernel_rfl) rfl rfl (b10) (fun hHeld => ?_)
            refine pure_ (i := 0) (N := some 44) (v := ?_) (a' := ?_) #[true, false, false, false, false, false, false, false, false, false, false, false] rfl rfl (by kernel_rfl) (fun _ _ _ h => h) (Or.inl ⟨by rfl, ?_⟩) ?_ ?_
            rotate_left
            · intro w'; go_simp; with_reducible rfl
            rotate_left
            · simp only [Act.put, OpenRow.s1, OpenRow.s2, OpenRow.s3, i64_w, i32_w]; rfl
            refine pure_ (i := 1) (N := some 45) (v := ?_) (a' := ?_) #[true, true, false, false, false, false, false, false, false, false, false, false] rfl rfl (by kernel_rfl) (fun _ _ _ h => h) (Or.inl ⟨by rfl, ?_⟩) ?_ ?_
            rotate_left
            · intro w'; go_simp; with_reducible rfl
            rotate_left
            · simp only [Act.put, OpenRow.s1, OpenRow.s2, OpenRow.s3, i64_w, i32_w]; rfl
            refine pure_ (i := 2) (N := some 46) (v := ?_) (a' := ?_) #[true, true, true, false, false, false, false, false, false, false, false, false] rfl rfl (by kernel_rfl) (fun _ _ _ h => h) (Or.inl ⟨by rfl, ?_⟩) ?_ ?_
            rotate_left
            · intro w'; go_simp; with_reducible rfl
            rotate_left
            · simp only [Act.put, OpenRow.s1, OpenRow.s2, OpenRow.s3, i64_w, i32_w]; rfl
            refine pure_ (i := 3) (N := some 47) (v := ?_) (a' := ?_) #[true, true, true, true, false, false, false, false, false, false, false, false] rfl rfl (by kernel_rfl) (fun _ _ _ h => h) (Or.inl ⟨by rfl, ?_⟩) ?_ ?_
            rotate_left
            · intro w'; go_simp; with_reducible rfl
            rotate_left
            · simp only [Act.put, OpenRow.s1, OpenRow.s2, OpenRow.s3, i64_w, i32_w]; rfl
            refine pure_ (i := 4) (N := some 48) (v := undef) (a' := ?_) #[true, true, true, true, true, false, false, false, false, false, false, false] rfl rfl (by kernel_rfl) (fun _ _ _ h => h) (Or.inr ⟨by rfl, rfl⟩) ?_ ?_
            rotate_left
            · simp only [Act.put, OpenRow.s1, OpenRow.s2, OpenRow.s3, i64_w, i32_w]; rfl
            refine pure_ (i := 5) (N := some 49) (v := undef) (a' := ?_) #[true, true, true, true, true, true, false, false, false, false, false, false] rfl rfl (by kernel_rfl) (fun _ _ _ h => h) (Or.inr ⟨by rfl, rfl⟩) ?_ ?_
            rotate_left
            · simp only [Act.put, OpenRow.s1, OpenRow.s2, OpenRow.s3, i64_w, i32_w]; rfl
            refine pure_ (i := 6) (N := some 50) (v := undef) (a' := ?_) #[true, true, true, true, true, true, true, false, false, false, false, false] rfl rfl (by kernel_rfl) (fun _ _ _ h => h) (Or.inr ⟨by rfl, rfl⟩) ?_ ?_
            rotate_left
            · simp only [Act.put, OpenRow.s1, OpenRow.s2, OpenRow.s3, i64_w, i32_w]; rfl
            refine pure_ (i := 7) (N := some 51) (v := undef) (a' := ?_) #[true, true, true, true, true, true, true, true, false, false, false, false] rfl rfl (by kernel_rfl) (fun _ _ _ h => h) (Or.inr ⟨by rfl, rfl⟩) ?_ ?_
            rotate_left
            · simp only [Act.put, OpenRow.s1, OpenRow.s2, OpenRow.s3, i64_w, i32_w]; rfl
            refine pure_ (i := 8) (N := some 52) (v := undef) (a' := ?_) #[true, true, true, true, true, true, true, true, true, false, false, false] rfl rfl (by kernel_rfl) (fun _ _ _ h => h) (Or.inr ⟨by rfl, rfl⟩) ?_ ?_
            rotate_left
            · simp only [Act.put, OpenRow.s1, OpenRow.s2, OpenRow.s3, i64_w, i32_w]; rfl
            refine pure_ (i := 9) (N := some 53) (v := undef) (a' := ?_) #[true, true, true, true, true, true, true, true, true, true, false, false] rfl rfl (by kernel_rfl) (fun _ _ _ h => h) (Or.inr ⟨by rfl, rfl⟩) ?_ ?_
            rotate_left
            · simp only [Act.put, OpenRow.s1, OpenRow.s2, OpenRow.s3, i64_w, i32_w]; rfl
            refine pure_ (i := 10) (N := some 54) (v := undef) (a' := ?_) #[true, true, true, true, true, true, true, true, true, true, true, false] rfl rfl (by kernel_rfl) (fun _ _ _ h => h) (Or.inr ⟨by rfl, rfl⟩) ?_ ?_
            rotate_left
            · simp only [Act.put, OpenRow.s1, OpenRow.s2, OpenRow.s3, i64_w, i32_w]; rfl
            refine pure_ (i := 11) (N := some 55) (v := ?_) (a' := ?_) #[true, true, true, true, true, true, true, true, true, true, true, true] rfl rfl (by kernel_rfl) (fun _ _ _ h => h) (Or.inl ⟨by rfl, ?_⟩) ?_ ?_
            rotate_left
            · intro w'; go_simp; with_reducible rfl
            rotate_left
            · simp only [Act.put, OpenRow.s1, OpenRow.s2, OpenRow.s3, i64_w, i32_w]; rfl
            refine done_ (by kernel_rfl) ?_

            have hhit : spec_l03Apply.hit xs x0 = false := by unfold spec_l03Apply.hit; rw [hpos, decide_eq_false (by omega), Bool.false_and]
            have HFIN := Aside0.mk (show spec_l03Apply.step xs (⟨x0, x1, true⟩ : S88) = (xs.take q) ++ (ys) by rw [spec_l03Apply.step, if_pos rfl, spec_l03Apply.rest, if_neg (by rw [hhit]; simp), hpos, HYS.out] <;> simp [List.append_assoc])
            obtain ⟨Wd, hWd⟩ : ∃ Wd, Wd = w43.drew := ⟨_, rfl⟩
            rw [← hWd]
            have HT := Aside0.mk (show Kd.R k74 74 Wd w.heap.size (fun _ => True) (.slice A4 q c4) (xs.take q) by rw [hWd]; exact Kd.R_take (Kd.R_drew HOd.out) hpl)
            have HBe := Aside0.mk (show Below w.heap.size w Wd by rw [hWd]; exact below_drew1 HBd.out)
            have HO9 := Aside0.mk (show Kd.R k74 74 Wd Wc.heap.size (fun _ => True) (.slice A9 ys.length c9) ys by rw [hWd]; exact Kd.R_drew HO4.out)
            have HXe : Wd.heap[gb]? = some (.cells #[.string x0, .string x1, .bool true] 88 (0, 0)) := by rw [hWd]; exact HXd.out
            have u0 : Wd.cell? ⟨gb, 0, none⟩ = some (.string x0) := (blk_cell HXe 0).trans rfl
            have u1 : Wd.cell? ⟨gb, 1, none⟩ = some (.string x1) := (blk_cell HXe 1).trans rfl
            have u2 : Wd.cell? ⟨gb, 2, none⟩ = some (.bool true) := (blk_cell HXe 2).trans rfl
            have HYC := Aside0.mk (Kd.R_reads' HO9.out).2.1
            clear hWd hhit HXe
            go_wp2_with (first
              | ((with_reducible refine gate_builtin (b := .append) (xs := #[.tmp 72, .tmp 73]) rfl ?_); at_builtin; refine Kd.R_append_rows k74 (w0 := w) w.heap.size rfl (.tmp 72) (.tmp 73) 24 74 (.agg #[(.string ⟨#[]⟩), (.string ⟨#[]⟩)]) 32 rfl Try.underlying24 info74 rfl (by decide) (by decide) (.slice A4 q c4) (xs.take q) (ys) A9 ys.length c9 (fun _ => True) (fun _ => False) rfl rfl HT.out (Kd.R_reads' HO9.out).2.2 (fun y cs h => by rw [k74_open h]; exact k74_mkM _ _ _ _) (fun _ h => h.elim) (fun _ _ => trivial) HBe.out HBe.out.size (by have := HLN.out; have := HYL.out; simp; omega) ?_; intro v74 w74 ho hb hg_ hn_; have HO74 := Aside0.mk ho; have HB74 := Aside0.mk hb; clear ho hb hg_ hn_))
            go_roundg (l1.length - (kk + 1))
            case measure => omega
            case rel => exact ⟨kk + 1, by omega, by omega, by go_num, ⟨by rw [HST.out, HFIN.out]; exact HO74.out⟩, HB74⟩
          | false =>
            go_wp2_with fail
            refine start_ (n := 14) (S := fun w' => w'.cell? ⟨gb, 0, none⟩ = some (.string x0)) (ds := []) #[false, false, false, false, false, false, false, false, false, false, false, false, false, false] (by kernel_rfl) rfl rfl (b0) (fun hHeld => ?_)
            refine pure_ (i := 0) (N := some 23) (v := ?_) (a' := ?_) #[true, false, false, false, false, false, false, false, false, false, false, false, false, false] rfl rfl (by kernel_rfl) (fun _ _ _ h => h) (Or.inl ⟨by rfl, ?_⟩) ?_ ?_
            rotate_left
            · intro w'; go_simp; with_reducible rfl
            rotate_left
            · simp only [Act.put, OpenRow.s1, OpenRow.s2, OpenRow.s3, i64_w, i32_w]; rfl
            refine pure_ (i := 1) (N := some 24) (v := ?_) (a' := ?_) #[true, true, false, false, false, false, false, false, false, false, false, false, false, false] rfl rfl (by kernel_rfl) (fun _ _ _ h => h) (Or.inl ⟨by rfl, ?_⟩) ?_ ?_
            rotate_left
            · intro w'; go_simp; with_reducible rfl
            rotate_left
            · simp only [Act.put, OpenRow.s1, OpenRow.s2, OpenRow.s3, i64_w, i32_w]; rfl
            refine pure_ (i := 2) (N := some 25) (v := ?_) (a' := ?_) #[true, true, true, false, false, false, false, false, false, false, false, false, false, false] rfl rfl (by kernel_rfl) (fun _ _ _ h => h) (Or.inl ⟨by rfl, ?_⟩) ?_ ?_
            rotate_left
            · intro w'; go_simp; with_reducible rfl
            rotate_left
            · simp only [Act.put, OpenRow.s1, OpenRow.s2, OpenRow.s3, i64_w, i32_w]; rfl
            refine pure_ (i := 3) (N := some 26) (v := ?_) (a' := ?_) #[true, true, true, true, false, false, false, false, false, false, false, false, false, false] rfl rfl (by kernel_rfl) (fun _ _ _ h => h) (Or.inl ⟨by rfl, ?_⟩) ?_ ?_
            rotate_left
            · intro w'; go_simp; with_reducible rfl
            rotate_left
            · simp only [Act.put, OpenRow.s1, OpenRow.s2, OpenRow.s3, i64_w, i32_w]; rfl
            refine pure_ (i := 4) (N := some 27) (v := ?_) (a' := ?_) #[true, true, true, true, true, false, false, false, false, false, false, false, false, false] rfl rfl (by kernel_rfl) (fun _ _ _ h => h) (Or.inl ⟨by rfl, ?_⟩) ?_ ?_
            rotate_left
            · intro w'; go_simp; with_reducible rfl
            rotate_left
            · simp only [Act.put, OpenRow.s1, OpenRow.s2, OpenRow.s3, i64_w, i32_w]; rfl
            refine pure_ (i := 5) (N := some 28) (v := undef) (a' := ?_) #[true, true, true, true, true, true, false, false, false, false, false, false, false, false] rfl rfl (by kernel_rfl) (fun _ _ _ h => h) (Or.inr ⟨by rfl, rfl⟩) ?_ ?_
            rotate_left
            · simp only [Act.put, OpenRow.s1, OpenRow.s2, OpenRow.s3, i64_w, i32_w]; rfl
            refine pure_ (i := 6) (N := some 29) (v := undef) (a' := ?_) #[true, true, true, true, true, true, true, false, false, false, false, false, false, false] rfl rfl (by kernel_rfl) (fun _ _ _ h => h) (Or.inr ⟨by rfl, rfl⟩) ?_ ?_
            rotate_left
            · simp only [Act.put, OpenRow.s1, OpenRow.s2, OpenRow.s3, i64_w, i32_w]; rfl
            refine pure_ (i := 7) (N := some 30) (v := undef) (a' := ?_) #[true, true, true, true, true, true, true, true, false, false, false, false, false, false] rfl rfl (by kernel_rfl) (fun _ _ _ h => h) (Or.inr ⟨by rfl, rfl⟩) ?_ ?_
            rotate_left
            · simp only [Act.put, OpenRow.s1, OpenRow.s2, OpenRow.s3, i64_w, i32_w]; rfl
            refine pure_ (i := 8) (N := some 31) (v := undef) (a' := ?_) #[true, true, true, true, true, true, true, true, true, false, false, false, false, false] rfl rfl (by kernel_rfl) (fun _ _ _ h => h) (Or.inr ⟨by rfl, rfl⟩) ?_ ?_
            rotate_left
            · simp only [Act.put, OpenRow.s1, OpenRow.s2, OpenRow.s3, i64_w, i32_w]; rfl
            refine pure_ (i := 9) (N := some 32) (v := undef) (a' := ?_) #[true, true, true, true, true, true, true, true, true, true, false, false, false, false] rfl rfl (by kernel_rfl) (fun _ _ _ h => h) (Or.inr ⟨by rfl, rfl⟩) ?_ ?_
            rotate_left
            · simp only [Act.put, OpenRow.s1, OpenRow.s2, OpenRow.s3, i64_w, i32_w]; rfl
            refine pure_ (i := 10) (N := some 33) (v := undef) (a' := ?_) #[true, true, true, true, true, true, true, true, true, true, true, false, false, false] rfl rfl (by kernel_rfl) (fun _ _ _ h => h) (Or.inr ⟨by rfl, rfl⟩) ?_ ?_
            rotate_left
            · simp only [Act.put, OpenRow.s1, OpenRow.s2, OpenRow.s3, i64_w, i32_w]; rfl
            refine pure_ (i := 11) (N := some 34) (v := undef) (a' := ?_) #[true, true, true, true, true, true, true, true, true, true, true, true, false, false] rfl rfl (by kernel_rfl) (fun _ _ _ h => h) (Or.inr ⟨by rfl, rfl⟩) ?_ ?_
            rotate_left
            · simp only [Act.put, OpenRow.s1, OpenRow.s2, OpenRow.s3, i64_w, i32_w]; rfl
            refine pure_ (i := 12) (N := some 35) (v := undef) (a' := ?_) #[true, true, true, true, true, true, true, true, true, true, true, true, true, false] rfl rfl (by kernel_rfl) (fun _ _ _ h => h) (Or.inr ⟨by rfl, rfl⟩) ?_ ?_
            rotate_left
            · simp only [Act.put, OpenRow.s1, OpenRow.s2, OpenRow.s3, i64_w, i32_w]; rfl
            refine pure_ (i := 13) (N := some 36) (v := ?_) (a' := ?_) #[true, true, true, true, true, true, true, true, true, true, true, true, true, true] rfl rfl (by kernel_rfl) (fun _ _ _ h => h) (Or.inl ⟨by rfl, ?_⟩) ?_ ?_
            rotate_left
            · intro w'; go_simp; with_reducible rfl
            rotate_left
            · simp only [Act.put, OpenRow.s1, OpenRow.s2, OpenRow.s3, i64_w, i32_w]; rfl
            refine done_ (by kernel_rfl) ?_

            obtain ⟨Wc, hWc⟩ : ∃ Wc, Wc = wr.drew := ⟨_, rfl⟩
            rw [← hWc]
            have HOc := Aside0.mk (show Kd.R k74 74 Wc w.heap.size (fun _ => True) (.slice A4 xs.length c4) xs by rw [hWc]; exact Kd.R_drew HO5.out)
            have HBc := Aside0.mk (show Below w.heap.size w Wc by rw [hWc]; exact below_drew1 HB5.out)
            have HXc := Aside0.mk (show Wc.heap[gb]? = some (.cells #[.string x0, .string x1, .bool false] 88 (0, 0)) by rw [hWc]; exact HX5.out)
            clear hWc
            have hlc4 : xs.length ≤ c4 := (Kd.R_reads' HOc.out).2.1
            obtain ⟨ys, hys⟩ : ∃ ys, ys = xs.drop q := ⟨_, rfl⟩
            have hyl : ys.length = xs.length - q := by rw [hys, List.length_drop]
            obtain ⟨AD, hAD⟩ : ∃ AD, (if c4 = q then A4 else (A4 : Option Addr).map (·.add (q * 2))) = AD := ⟨_, rfl⟩
            have hcD := fun W => Ythojdfndgfpkpaa.OpenFlat.cut_any_l (P := Try.prog) 24 74 rfl rfl (sz := 2) rfl A4 xs.length c4 W .i64 q (q : Int) rfl hpl
            rw [hAD, ← hyl] at hcD
            have hcF := fun W => Ythojdfndgfpkpaa.OpenFlat.cut_any_h (P := Try.prog) 24 74 rfl rfl (sz := 2) rfl A4 xs.length c4 W .i64 q (q : Int) rfl (by omega)
            have HCD := Aside0.mk (fun W (h : Kd.C k74 W A4 xs.length xs) => show Kd.C k74 W AD ys.length ys by have := Kd.C_drop h hpl hlc4; rw [← hAD, hys]; exact this)
            have HYL := Aside0.mk hyl
            have HYS := Aside0.mk hys
            clear hAD hys hyl
            go_wp2_with (first
              | ((with_reducible refine gate_dst (N := 39) rfl ?_); refine Kd.R_lit k74 (w0 := Wc) Wc.heap.size 74 ?hg (N := 39) ?hd (xs := []) (inner := []) (ok := fun _ => True) (okp := fun _ => True) ?hr ?hp (fun _ hk => hk) trivial (Below.refl _ _) (Nat.le_refl _) (by simp) ?_; (case hd => rfl); (case hg => rfl); (case hr => first | (go_simp; done) | (go_simp; rfl)); (case hp => exact (Reps.none _ _)); intro v39 w39 ho hb hg_ hn_; have HO39 := Aside0.mk ho; have HB39 := Aside0.mk hb; clear ho hb hg_ hn_)
              | ((with_reducible refine gate_builtin (b := .append) (xs := #[.tmp 39, .tmp 42]) rfl ?_); at_builtin; refine Kd.R_append_rows k74 (w0 := Wc) Wc.heap.size rfl (.tmp 39) (.tmp 42) 24 74 (.agg #[(.string ⟨#[]⟩), (.string ⟨#[]⟩)]) 32 rfl Try.underlying24 info74 rfl (by decide) (by decide) v39 [] ys AD ys.length (c4 - q) (fun _ => True) (fun _ => False) rfl rfl HO39.out (HCD.out _ (Kd.R_reads' (Kd.R_below HOc.out HB39.out)).2.2) (fun y cs h => by rw [k74_open h]; exact k74_mkM _ _ _ _) (fun _ h => h.elim) (fun _ _ => trivial) HB39.out HB39.out.size (by have := HLN.out; have := HYL.out; simp; omega) ?_; intro v43 w43 ho hb hg_ hn_; obtain ⟨A9, c9, rfl⟩ := Kd.R_slice ho; have HO43 := Aside0.mk ho; have HB43 := Aside0.mk hb; clear ho hb hg_ hn_))
            have HO4 := Aside0.mk (show Kd.R k74 74 w43 Wc.heap.size (fun _ => True) (.slice A9 ys.length c9) ys from HO43.out)
            have HOd := Aside0.mk (Kd.R_below HOc.out HB43.out)
            have HBd := Aside0.mk (below_step HBc.out HB43.out)
            have HXd := Aside0.mk ((HB43.out.block gb (blk_lt HXc.out)).trans HXc.out)
            have b10 : w43.cell? ⟨gb, 0, none⟩ = some (.string x0) := (blk_cell HXd.out 0).trans rfl
            have HBLK := Aside0.mk (show ∀ k k', (Value.slice A9 ys.length c9).ownBlock = some k → (Value.slice A4 q c4).ownBlock = some k' → k ≠ k' from fun k k' hk hk' => by
              have h1 := Kd.R_base HO43.out k hk
              have h2 := ((Kd.R_bound HOc.out).1 k' (by rw [Ythojdfndgfpkpaa.OpenFlat.ownBlock_slice A4 xs.length c4 q c4]; exact hk')).2.2.1
              omega)
            have hy0z : ¬ (0 : Int) < (ys.length : Int) := by have := HYL.out; omega
            have hy0g : ¬ ((ys.length : Int) > 0) := by have := HYL.out; omega
            have hy0n : ¬ 0 < ys.length := by have := HYL.out; omega
            refine start_ (n := 12) (S := fun w' => w'.cell? ⟨gb, 0, none⟩ = some (.string x0)) (ds := []) #[false, false, false, false, false, false, false, false, false, false, false, false] (by kernel_rfl) rfl rfl (b10) (fun hHeld => ?_)
            refine pure_ (i := 0) (N := some 44) (v := ?_) (a' := ?_) #[true, false, false, false, false, false, false, false, false, false, false, false] rfl rfl (by kernel_rfl) (fun _ _ _ h => h) (Or.inl ⟨by rfl, ?_⟩) ?_ ?_
            rotate_left
            · intro w'; go_simp; with_reducible rfl
            rotate_left
            · simp only [Act.put, OpenRow.s1, OpenRow.s2, OpenRow.s3, i64_w, i32_w]; rfl
            refine pure_ (i := 1) (N := some 45) (v := ?_) (a' := ?_) #[true, true, false, false, false, false, false, false, false, false, false, false] rfl rfl (by kernel_rfl) (fun _ _ _ h => h) (Or.inl ⟨by rfl, ?_⟩) ?_ ?_
            rotate_left
            · intro w'; go_simp; with_reducible rfl
            rotate_left
            · simp only [Act.put, OpenRow.s1, OpenRow.s2, OpenRow.s3, i64_w, i32_w]; rfl
            refine pure_ (i := 2) (N := some 46) (v := ?_) (a' := ?_) #[true, true, true, false, false, false, false, false, false, false, false, false] rfl rfl (by kernel_rfl) (fun _ _ _ h => h) (Or.inl ⟨by rfl, ?_⟩) ?_ ?_
            rotate_left
            · intro w'; go_simp; with_reducible rfl
            rotate_left
            · simp only [Act.put, OpenRow.s1, OpenRow.s2, OpenRow.s3, i64_w, i32_w]; rfl
            refine pure_ (i := 3) (N := some 47) (v := ?_) (a' := ?_) #[true, true, true, true, false, false, false, false, false, false, false, false] rfl rfl (by kernel_rfl) (fun _ _ _ h => h) (Or.inl ⟨by rfl, ?_⟩) ?_ ?_
            rotate_left
            · intro w'; go_simp; with_reducible rfl
            rotate_left
            · simp only [Act.put, OpenRow.s1, OpenRow.s2, OpenRow.s3, i64_w, i32_w]; rfl
            refine pure_ (i := 4) (N := some 48) (v := undef) (a' := ?_) #[true, true, true, true, true, false, false, false, false, false, false, false] rfl rfl (by kernel_rfl) (fun _ _ _ h => h) (Or.inr ⟨by rfl, rfl⟩) ?_ ?_
            rotate_left
            · simp only [Act.put, OpenRow.s1, OpenRow.s2, OpenRow.s3, i64_w, i32_w]; rfl
            refine pure_ (i := 5) (N := some 49) (v := undef) (a' := ?_) #[true, true, true, true, true, true, false, false, false, false, false, false] rfl rfl (by kernel_rfl) (fun _ _ _ h => h) (Or.inr ⟨by rfl, rfl⟩) ?_ ?_
            rotate_left
            · simp only [Act.put, OpenRow.s1, OpenRow.s2, OpenRow.s3, i64_w, i32_w]; rfl
            refine pure_ (i := 6) (N := some 50) (v := undef) (a' := ?_) #[true, true, true, true, true, true, true, false, false, false, false, false] rfl rfl (by kernel_rfl) (fun _ _ _ h => h) (Or.inr ⟨by rfl, rfl⟩) ?_ ?_
            rotate_left
            · simp only [Act.put, OpenRow.s1, OpenRow.s2, OpenRow.s3, i64_w, i32_w]; rfl
            refine pure_ (i := 7) (N := some 51) (v := undef) (a' := ?_) #[true, true, true, true, true, true, true, true, false, false, false, false] rfl rfl (by kernel_rfl) (fun _ _ _ h => h) (Or.inr ⟨by rfl, rfl⟩) ?_ ?_
            rotate_left
            · simp only [Act.put, OpenRow.s1, OpenRow.s2, OpenRow.s3, i64_w, i32_w]; rfl
            refine pure_ (i := 8) (N := some 52) (v := undef) (a' := ?_) #[true, true, true, true, true, true, true, true, true, false, false, false] rfl rfl (by kernel_rfl) (fun _ _ _ h => h) (Or.inr ⟨by rfl, rfl⟩) ?_ ?_
            rotate_left
            · simp only [Act.put, OpenRow.s1, OpenRow.s2, OpenRow.s3, i64_w, i32_w]; rfl
            refine pure_ (i := 9) (N := some 53) (v := undef) (a' := ?_) #[true, true, true, true, true, true, true, true, true, true, false, false] rfl rfl (by kernel_rfl) (fun _ _ _ h => h) (Or.inr ⟨by rfl, rfl⟩) ?_ ?_
            rotate_left
            · simp only [Act.put, OpenRow.s1, OpenRow.s2, OpenRow.s3, i64_w, i32_w]; rfl
            refine pure_ (i := 10) (N := some 54) (v := undef) (a' := ?_) #[true, true, true, true, true, true, true, true, true, true, true, false] rfl rfl (by kernel_rfl) (fun _ _ _ h => h) (Or.inr ⟨by rfl, rfl⟩) ?_ ?_
            rotate_left
            · simp only [Act.put, OpenRow.s1, OpenRow.s2, OpenRow.s3, i64_w, i32_w]; rfl
            refine pure_ (i := 11) (N := some 55) (v := ?_) (a' := ?_) #[true, true, true, true, true, true, true, true, true, true, true, true] rfl rfl (by kernel_rfl) (fun _ _ _ h => h) (Or.inl ⟨by rfl, ?_⟩) ?_ ?_
            rotate_left
            · intro w'; go_simp; with_reducible rfl
            rotate_left
            · simp only [Act.put, OpenRow.s1, OpenRow.s2, OpenRow.s3, i64_w, i32_w]; rfl
            refine done_ (by kernel_rfl) ?_

            have hhit : spec_l03Apply.hit xs x0 = false := by unfold spec_l03Apply.hit; rw [hpos, decide_eq_false (by omega), Bool.false_and]
            have HFIN := Aside0.mk (show spec_l03Apply.step xs (⟨x0, x1, false⟩ : S88) = (xs.take q ++ [(⟨x0, x1⟩ : S74)]) ++ (ys) by rw [spec_l03Apply.step, if_neg (by simp), spec_l03Apply.rest, if_neg (by rw [hhit]; simp), hpos, HYS.out] <;> simp [List.append_assoc])
            obtain ⟨Wd, hWd⟩ : ∃ Wd, Wd = w43.drew := ⟨_, rfl⟩
            rw [← hWd]
            have HT := Aside0.mk (show Kd.R k74 74 Wd w.heap.size (fun _ => True) (.slice A4 q c4) (xs.take q) by rw [hWd]; exact Kd.R_take (Kd.R_drew HOd.out) hpl)
            have HBe := Aside0.mk (show Below w.heap.size w Wd by rw [hWd]; exact below_drew1 HBd.out)
            have HO9 := Aside0.mk (show Kd.R k74 74 Wd Wc.heap.size (fun _ => True) (.slice A9 ys.length c9) ys by rw [hWd]; exact Kd.R_drew HO4.out)
            have HXe : Wd.heap[gb]? = some (.cells #[.string x0, .string x1, .bool false] 88 (0, 0)) := by rw [hWd]; exact HXd.out
            have u0 : Wd.cell? ⟨gb, 0, none⟩ = some (.string x0) := (blk_cell HXe 0).trans rfl
            have u1 : Wd.cell? ⟨gb, 1, none⟩ = some (.string x1) := (blk_cell HXe 1).trans rfl
            have u2 : Wd.cell? ⟨gb, 2, none⟩ = some (.bool false) := (blk_cell HXe 2).trans rfl
            have HYC := Aside0.mk (Kd.R_reads' HO9.out).2.1
            clear hWd hhit HXe
            go_wp2_with (first
              | ((with_reducible refine gate_builtin (b := .append) (xs := #[.tmp 64, .tmp 70]) rfl ?_); at_builtin; refine Kd.R_append k74 (w0 := w) w.heap.size rfl (.tmp 64) (.tmp 70) 24 74 (.agg #[(.string ⟨#[]⟩), (.string ⟨#[]⟩)]) 32 rfl Try.underlying24 info74 rfl (by decide) (by decide) (.slice A4 q c4) (xs.take q) (⟨x0, x1⟩ : S74) [.string x0, .string x1] (fun _ => True) (fun _ => False) rfl rfl (k74_mkM _ _ _ (⟨x0, x1⟩ : S74)) (fun _ hk => hk.elim) (fun _ _ => trivial) HT.out HBe.out HBe.out.size (by have := HLN.out; simp; omega) ?_; intro v71 w71 ho hb hg_ hat_; have HO71 := Aside0.mk ho; have HB71 := Aside0.mk hb; have HR71 := Aside0.mk (Ythojdfndgfpkpaa.OpenFlat.R_kept spec_l03Apply.flat HO9.out hg_ (fun k hk he => HBLK.out k k hk he.symm rfl)); clear ho hb hg_ hat_)
              | ((with_reducible refine gate_builtin (b := .append) (xs := #[.tmp 72, .tmp 73]) rfl ?_); at_builtin; refine Kd.R_append_rows k74 (w0 := w) w.heap.size rfl (.tmp 72) (.tmp 73) 24 74 (.agg #[(.string ⟨#[]⟩), (.string ⟨#[]⟩)]) 32 rfl Try.underlying24 info74 rfl (by decide) (by decide) v71 (xs.take q ++ [(⟨x0, x1⟩ : S74)]) (ys) A9 ys.length c9 (fun _ => True) (fun _ => False) rfl rfl HO71.out (Kd.R_reads' HR71.out).2.2 (fun y cs h => by rw [k74_open h]; exact k74_mkM _ _ _ _) (fun _ h => h.elim) (fun _ _ => trivial) HB71.out HB71.out.size (by have := HLN.out; have := HYL.out; simp; omega) ?_; intro v74 w74 ho hb hg_ hn_; have HO74 := Aside0.mk ho; have HB74 := Aside0.mk hb; clear ho hb hg_ hn_))
            go_roundg (l1.length - (kk + 1))
            case measure => omega
            case rel => exact ⟨kk + 1, by omega, by omega, by go_num, ⟨by rw [HST.out, HFIN.out]; exact HO74.out⟩, HB74⟩
    · have hltz : ¬ (kk : Int) < (l1.length : Int) := by omega
      obtain rfl : kk = l1.length := by omega
      have HO6 := HO
      rw [List.take_length] at HO6
      clear HO
      go_wp2
      go_ret
      exact ⟨_, rfl, HO6.out, HB.out⟩


end Go.Proofs.Ythojdfndgfpkpaa.XA
