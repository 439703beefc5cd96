/- Plain facts: the program's big is the bytes of a number, the highest first; texts of bytes; no condition beside. -/
import Derived.Test.YtjckchadcpaijaaYIBase
import Derived.Test.YtjckchadcpaijaaYLoopsBig
import Derived.Lib.IndexBytes
namespace Go.Proofs.Ytjckchadcpaijaa.YI
open Go.RowKit Go.Proofs.Ytjckchadcpaijaa.Num Go.Proofs.Ytjckchadcpaijaa.Loops Go.Proofs.Ytjckchadcpaijaa.XI Go.Proofs.YtjckchadcpaijaaW.PrintWords Go.Proofs.YtjckchadcpaijaaW.PrintLast

theorem pow256 (i : Nat) : (2 : Int) ^ (8 * i) = 256 ^ i := by rw [Int.pow_mul]; rfl

theorem big_l0 (n : Int) (m : Nat) (hm : m ≤ 8) (d : Nat) : ∀ (i : Nat) (x : List Int), x.length = m → i + d = m → (∀ j, j < m → x.getD j 0 = if m - 1 - j < i then n / 256 ^ (m - 1 - j) % 256 else 0) → Ev (fun k => impl_big.l0 k n (m : Int) x (m : Int) (i : Int)) (bigL n m) := by
  induction d with
  | zero =>
    intro i x hl hd he
    refine Ev.step (f := fun _ => some x) (fun k => ?_) ?_
    · simp only [impl_big.l0]; rw [if_neg (by omega)]
    · refine Ev.eq (Ev.now _) (ext_getD (by rw [hl, bigL_length]) (fun j hj => ?_))
      rw [he j (by omega), if_pos (by omega), bigL_getD n m j (by omega)]
  | succ d ih =>
    intro i x hl hd he
    have e1 : wrap64 (8 * (i : Int)) = ((8 * i : Nat) : Int) := by rw [w64 (by omega) (by omega)]; omega
    have e2 : wrap64 (wrap64 ((m : Int) - 1) - (i : Int)) = ((m - 1 - i : Nat) : Int) := by rw [w64 (n := (m : Int) - 1) (by omega) (by omega), w64 (by omega) (by omega)]; omega
    refine Ev.step (fun k => ?_) (ih (i + 1) (x.set (m - 1 - i) (n / 256 ^ i % 256)) (by simpa using hl) (by omega) ?_)
    · simp only [impl_big.l0]
      rw [e1, e2, if_pos (by omega), if_pos (by omega), if_pos (by omega), if_pos (by omega), w64 (n := (i : Int) + 1) (by omega) (by omega), Int.toNat_natCast]
      rw [show shr .i64 n ((8 * i : Nat) : Int) = n / 256 ^ i from by
        show n / 2 ^ min ((8 * i : Nat) : Int).toNat 64 = _
        rw [Int.toNat_natCast, show min (8 * i) 64 = 8 * i from by omega, pow256]]
      rfl
    · intro j hj
      rw [getD_set _ _ _ _ (by omega)]
      by_cases h : j = m - 1 - i
      · rw [if_pos h, if_pos (by omega), show m - 1 - j = i from by omega]
      · rw [if_neg h, he j hj]
        by_cases h2 : m - 1 - j < i
        · rw [if_pos h2, if_pos (by omega)]
        · rw [if_neg h2, if_neg (by omega)]

theorem big (n : Int) (m : Nat) (hm : m ≤ 8) : Ev (fun k => impl_big.f k n (m : Int)) (bigL n m) := by
  unfold impl_big.f
  simp only [if_pos (show 0 ≤ (m : Int) by omega), Int.toNat_natCast, if_pos (show m ≤ 281474976710656 by omega), Option.bind_some, List.length_replicate]
  exact big_l0 n m hm m 0 (List.replicate m 0) (by simp) (by omega) (fun j hj => by
    rw [if_neg (by omega)]; simp [List.getD_eq_getElem?_getD, hj])

/- texts made of bytes -/
theorem bytesOf_str (l : List Int) (h : ∀ x ∈ l, 0 ≤ x ∧ x < 256) : bytesOf (strOfNums l) = l := by
  unfold bytesOf
  rw [strOfNums_data, List.map_map]
  conv => rhs; rw [← List.map_id l]
  apply List.map_congr_left
  intro x hx
  have := h x hx
  simp only [Function.comp, UInt8.toNat_ofNat', id]
  omega
theorem bt_str (l : List Int) (h : ∀ x ∈ l, 0 ≤ x ∧ x < 256) (i : Nat) : bt (strOfNums l) (i : Int) = l.getD i 0 := by
  rw [← rd_bytesOf, bytesOf_str l h, rd_nat]
theorem str_drop (l : List Int) (a : Nat) : (strOfNums l).extract a (strOfNums l).size = strOfNums (l.drop a) := by
  apply ByteArray.ext
  apply Array.toList_inj.1
  rw [Lib.extract_to_end, strOfNums_data, strOfNums_data, List.map_drop]
end Go.Proofs.Ytjckchadcpaijaa.YI
