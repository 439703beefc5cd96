/- The program's sum and the reference's are one number, below 2 to the 32, for all bytes; no condition but the length. -/
import Derived.Test.YthacgkafdjnppaaYUCommon
namespace Go.Proofs.Ythacgkafdjnppaa.YU
open Go.RowKit Go.Proofs.Ythacgkafdjnppaa.Num Go.Proofs.Ythacgkafdjnppaa.XU Go.Proofs.YthacgkafdjnppaaW.PrintWords Go.Proofs.YthacgkafdjnppaaW.PrintLast
def rnd (x : Nat) : Nat → Nat
  | 0 => x
  | j + 1 => rnd (if x % 2 = 1 then x / 2 ^^^ 3988292384 else x / 2) j
theorem rnd_lt (j : Nat) : ∀ x, x < 4294967296 → rnd x j < 4294967296 := by
  induction j with
  | zero => exact fun x h => h
  | succ j ih =>
    intro x h
    unfold rnd
    apply ih
    split
    · exact xor_lt32 (by omega) (by omega)
    · omega
def crcN : List Int → Nat → Nat
  | [], x => x
  | b :: l, x => crcN l (rnd (x ^^^ b.toNat) 8)
theorem crcN_lt (l : List Int) : ∀ x, x < 4294967296 → (∀ b ∈ l, 0 ≤ b ∧ b < 256) → crcN l x < 4294967296 := by
  induction l with
  | nil => exact fun x h _ => h
  | cons b l ih =>
    intro x h hb
    have := hb b (by simp)
    exact ih _ (rnd_lt 8 _ (xor_lt32 h (by omega))) (fun c hc => hb c (by simp [hc]))
def crcV (l : List Int) : Nat := crcN l 4294967295 ^^^ 4294967295
theorem crcV_lt (l : List Int) (h : ∀ b ∈ l, 0 ≤ b ∧ b < 256) : crcV l < 4294967296 := xor_lt32 (crcN_lt l _ (by omega) h) (by omega)
theorem i_xor {a b : Nat} (ha : a < 4294967296) (hb : b < 4294967296) : Go.bits .xor .i64 (a : Int) (b : Int) = ((a ^^^ b : Nat) : Int) := i64_xor_nat a b (by omega) (by omega)
section
variable (x0 : List Int) (hn : x0.length < 1099511627776)
include hn
theorem spec_l1 (r : Int) (x4 : Nat) (h4 : x4 < x0.length) (j : Nat) : ∀ (x : Nat) (i : Int), x < 4294967296 → i = 8 - (j : Int) → j ≤ 8 → Ev (fun k => spec_l02Crc.l0 k x0 ((rnd x j : Nat) : Int) ((x4 + 1 : Nat) : Int)) r → Ev (fun k => spec_l02Crc.l1 k x0 (x : Int) (x4 : Int) i) r := by
  induction j with
  | zero =>
    intro x i hx hi hj h
    refine Ev.step (fun k => ?_) h
    simp only [spec_l02Crc.l1]
    rw [if_neg (by omega), w64 (by omega) (by omega)]; rfl
  | succ j ih =>
    intro x i hx hi hj h
    have e1 : Int.tmod (x : Int) 2 = (x : Int) % 2 := Int.tmod_eq_emod_of_nonneg (by omega)
    have e2 : wrap64 (Int.tdiv (x : Int) 2) = ((x / 2 : Nat) : Int) := by
      rw [Int.tdiv_eq_ediv_of_nonneg (by omega), w64 (by omega) (by omega)]; omega
    by_cases hp : x % 2 = 1
    · have hlt := xor_lt32 (a := x / 2) (b := 3988292384) (by omega) (by omega)
      refine Ev.step (fun k => ?_) (ih (x / 2 ^^^ 3988292384) (i + 1) hlt (by omega) (by omega) ?_)
      · simp only [spec_l02Crc.l1]
        rw [if_pos (by omega), e1, if_pos (by omega), e2, w64 (by omega) (by omega)]
        rw [show (3988292384 : Int) = ((3988292384 : Nat) : Int) from rfl, i_xor (by omega) (by omega)]
      · unfold rnd at h; rw [if_pos hp] at h; exact h
    · refine Ev.step (fun k => ?_) (ih (x / 2) (i + 1) (by omega) (by omega) (by omega) ?_)
      · simp only [spec_l02Crc.l1]
        rw [if_pos (by omega), e1, if_neg (by omega), e2, w64 (by omega) (by omega)]
      · unfold rnd at h; rw [if_neg hp] at h; exact h
theorem impl_l1 (r : Int) (x4 : Nat) (h4 : x4 < x0.length) (j : Nat) : ∀ (x : Nat) (i : Int), x < 4294967296 → i = 8 - (j : Int) → j ≤ 8 → Ev (fun k => impl_crc.l0 k ((rnd x j : Nat) : Int) x0 (x0.length : Int) ((x4 + 1 : Nat) : Int)) r → Ev (fun k => impl_crc.l1 k (x : Int) x0 (x0.length : Int) (x4 : Int) i) r := by
  induction j with
  | zero =>
    intro x i hx hi hj h
    refine Ev.step (fun k => ?_) h
    simp only [impl_crc.l1]
    rw [if_neg (by omega), w64 (by omega) (by omega)]; rfl
  | succ j ih =>
    intro x i hx hi hj h
    have e1 : Go.bits .and .u32 (x : Int) 1 = ((x % 2 : Nat) : Int) := by
      rw [show (1 : Int) = ((1 : Nat) : Int) from rfl, u32_and_nat _ _ (by omega) (by omega), Nat.and_one_is_mod]
    have e2 : (x : Int) / 2 = ((x / 2 : Nat) : Int) := by omega
    by_cases hp : x % 2 = 1
    · have hlt := xor_lt32 (a := x / 2) (b := 3988292384) (by omega) (by omega)
      refine Ev.step (fun k => ?_) (ih (x / 2 ^^^ 3988292384) (i + 1) hlt (by omega) (by omega) ?_)
      · simp only [impl_crc.l1]
        rw [if_pos (by omega), e1, if_pos (by omega), e2, w64 (by omega) (by omega)]
        rw [show (3988292384 : Int) = ((3988292384 : Nat) : Int) from rfl, u32_xor_nat _ _ (by omega) (by omega)]
      · unfold rnd at h; rw [if_pos hp] at h; exact h
    · refine Ev.step (fun k => ?_) (ih (x / 2) (i + 1) (by omega) (by omega) (by omega) ?_)
      · simp only [impl_crc.l1]
        rw [if_pos (by omega), e1, if_neg (by omega), e2, w64 (by omega) (by omega)]
      · unfold rnd at h; rw [if_neg hp] at h; exact h
variable (hb : ∀ b ∈ x0, 0 ≤ b ∧ b < 256)
include hb
omit hn in
theorem drop_step (i : Nat) (h : i < x0.length) : x0.drop i = x0.getD i 0 :: x0.drop (i + 1) ∧ 0 ≤ x0.getD i 0 ∧ x0.getD i 0 < 256 := by
  have e : x0.getD i 0 = x0[i] := by simp [List.getD_eq_getElem?_getD, List.getElem?_eq_getElem h]
  rw [e]
  exact ⟨List.drop_eq_getElem_cons h, hb _ (List.getElem_mem h)⟩
theorem spec_l0 (d : Nat) : ∀ (i x : Nat), x < 4294967296 → i + d = x0.length → Ev (fun k => spec_l02Crc.l0 k x0 (x : Int) (i : Int)) ((crcN (x0.drop i) x ^^^ 4294967295 : Nat) : Int) := by
  induction d with
  | zero =>
    intro i x hx hd
    refine Ev.step (f := fun _ => some ((x ^^^ 4294967295 : Nat) : Int)) (fun k => ?_) ?_
    · simp only [spec_l02Crc.l0]; rw [if_neg (by omega)]
      rw [show (4294967295 : Int) = ((4294967295 : Nat) : Int) from rfl, i_xor hx (by omega)]
    · exact Ev.eq (Ev.now _) (by rw [List.drop_of_length_le (by omega)]; rfl)
  | succ d ih =>
    intro i x hx hd
    obtain ⟨e, h0, h1⟩ := drop_step x0 hb i (by omega)
    have hlt := xor_lt32 (a := x) (b := (x0.getD i 0).toNat) hx (by omega)
    have e2 : crcN (x0.drop i) x = crcN (x0.drop (i + 1)) (rnd (x ^^^ (x0.getD i 0).toNat) 8) := by rw [e]; rfl
    rw [e2]
    refine Ev.step (fun k => ?_) (spec_l1 x0 hn _ i (by omega) 8 (x ^^^ (x0.getD i 0).toNat) 0 hlt (by omega) (by omega) (ih (i + 1) _ (rnd_lt 8 _ hlt) (by omega)))
    · simp only [spec_l02Crc.l0]
      rw [if_pos (by omega), if_pos (by omega), rd_nat, w64 (by omega) (by omega)]
      rw [show x0.getD i 0 = (((x0.getD i 0).toNat : Nat) : Int) from by omega, i_xor hx (by omega), Int.toNat_natCast]
theorem impl_l0 (d : Nat) : ∀ (i x : Nat), x < 4294967296 → i + d = x0.length → Ev (fun k => impl_crc.l0 k (x : Int) x0 (x0.length : Int) (i : Int)) ((crcN (x0.drop i) x ^^^ 4294967295 : Nat) : Int) := by
  induction d with
  | zero =>
    intro i x hx hd
    have hlt := xor_lt32 (a := 4294967295) (b := x) (by omega) hx
    refine Ev.step (f := fun _ => some ((4294967295 ^^^ x : Nat) : Int)) (fun k => ?_) ?_
    · simp only [impl_crc.l0]; rw [if_neg (by omega)]
      rw [show (4294967295 : Int) = ((4294967295 : Nat) : Int) from rfl, u32_xor_nat _ _ (by omega) hx, w64 (by omega) (by omega)]
    · exact Ev.eq (Ev.now _) (by rw [List.drop_of_length_le (by omega), Nat.xor_comm]; rfl)
  | succ d ih =>
    intro i x hx hd
    obtain ⟨e, h0, h1⟩ := drop_step x0 hb i (by omega)
    have hlt := xor_lt32 (a := x) (b := (x0.getD i 0).toNat) hx (by omega)
    have e2 : crcN (x0.drop i) x = crcN (x0.drop (i + 1)) (rnd (x ^^^ (x0.getD i 0).toNat) 8) := by rw [e]; rfl
    rw [e2]
    refine Ev.step (fun k => ?_) (impl_l1 x0 hn _ i (by omega) 8 (x ^^^ (x0.getD i 0).toNat) 0 hlt (by omega) (by omega) (ih (i + 1) _ (rnd_lt 8 _ hlt) (by omega)))
    · simp only [impl_crc.l0]
      rw [if_pos (by omega), if_pos (by omega), if_pos (by omega), rd_nat]
      rw [show x0.getD i 0 % 4294967296 = (((x0.getD i 0).toNat : Nat) : Int) from by omega, u32_xor_nat _ _ hx (by omega)]
end
theorem spec_crc (l : List Int) (hn : l.length < 1099511627776) (hb : ∀ b ∈ l, 0 ≤ b ∧ b < 256) : Ev (fun k => spec_l02Crc.f k l) (crcV l : Int) := spec_l0 l hn hb l.length 0 4294967295 (by omega) (by omega)
theorem impl_crc' (l : List Int) (hn : l.length < 1099511627776) (hb : ∀ b ∈ l, 0 ≤ b ∧ b < 256) : Ev (fun k => impl_crc.f k l) (crcV l : Int) := impl_l0 l hn hb l.length 0 4294967295 (by omega) (by omega)
theorem wf_u8 {x : Int} (h : (Lit.int .u8 x).wf = true) : 0 ≤ x ∧ x < 256 := by
  simp [Lit.wf, IntKind.min, IntKind.max, IntKind.signed, IntKind.bits] at h
  omega
end Go.Proofs.Ythacgkafdjnppaa.YU
