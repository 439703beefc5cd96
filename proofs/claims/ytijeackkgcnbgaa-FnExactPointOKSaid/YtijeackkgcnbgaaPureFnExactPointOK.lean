/- The program's PointOK and the reference's give the same answer for all bytes, and write into nothing; no condition beyond the statement's own. -/
import Derived.Laws.BitsAllLaws
import Derived.RowKit
import Derived.Test.YtijeackkgcnbgaaXOx
namespace Go.Proofs.Ytijeackkgcnbgaa.Num
open Go.RowKit

theorem w64 {n : Int} (h0 : -9223372036854775808 ≤ n) (h1 : n < 9223372036854775808) : wrap64 n = n := by unfold wrap64; omega

theorem i64_xor_nat (a b : Nat) (ha : a < 4611686018427387904) (hb : b < 4611686018427387904) : bits .xor .i64 (a : Int) (b : Int) = ((a ^^^ b : Nat) : Int) := by
  have hx : a ^^^ b < 2 ^ 62 := Nat.xor_lt_two_pow (by omega) (by omega)
  show IntKind.i64.wrap ((BitVec.ofInt 64 (a : Int) ^^^ BitVec.ofInt 64 (b : Int)).toNat : Int) = _
  rw [BitVec.toNat_xor, ofInt_u64 a (by omega), ofInt_u64 b (by omega)]
  simp [IntKind.wrap, IntKind.bits, IntKind.signed]
  omega

theorem xor_lt32 {a b : Nat} (ha : a < 4294967296) (hb : b < 4294967296) : a ^^^ b < 4294967296 := Nat.xor_lt_two_pow (n := 32) ha hb

end Go.Proofs.Ytijeackkgcnbgaa.Num

namespace Go.Proofs.Ytijeackkgcnbgaa.YO
open Go.RowKit Go.Proofs.Ytijeackkgcnbgaa.Num Go.Proofs.Ytijeackkgcnbgaa.XO Go.Proofs.YtijeackkgcnbgaaW.PrintWords Go.Proofs.YtijeackkgcnbgaaW.PrintLast

theorem Ev.eq {α : Type} {g : Nat → Option α} {r r' : α} (h : Ev g r) (e : r = r') : Ev g r' := e ▸ h

theorem rd_nat (l : List Int) (i : Nat) : rd l (i : Int) = l.getD i 0 := by simp [rd]

/- two lists alike at each place -/
theorem ext_getD {l m : List Int} (h : l.length = m.length) (e : ∀ i, i < l.length → l.getD i 0 = m.getD i 0) : l = m := by
  apply List.ext_getElem h
  intro i h1 h2
  have := e i h1
  simpa [List.getD_eq_getElem?_getD, List.getElem?_eq_getElem h1, List.getElem?_eq_getElem h2] using this

theorem getD_set (l : List Int) (i j : Nat) (v : Int) (hi : i < l.length) : (l.set i v).getD j 0 = if j = i then v else l.getD j 0 := by
  simp only [List.getD_eq_getElem?_getD, List.getElem?_set]
  by_cases h : j = i
  · subst h; simp [hi]
  · rw [if_neg (fun e => h e.symm), if_neg h]

end Go.Proofs.Ytijeackkgcnbgaa.YO

namespace Go.Proofs.Ytijeackkgcnbgaa.YO
open Go.RowKit Go.Proofs.Ytijeackkgcnbgaa.Num Go.Proofs.Ytijeackkgcnbgaa.XO Go.Proofs.YtijeackkgcnbgaaW.PrintWords Go.Proofs.YtijeackkgcnbgaaW.PrintLast

theorem toByteS_l0 (x0 : List Int) (hn : x0.length < 1099511627776) (d : Nat) : ∀ (i : Nat) (x3 : List Int), x3.length = x0.length → i + d = x0.length → (∀ j, j < i → x3.getD j 0 = x0.getD j 0) → Ev (fun k => laws_toByteS.l0 k x0 x3 (i : Int)) x0 := by
  induction d with
  | zero =>
    intro i x3 hl hd he
    refine Ev.step (f := fun _ => some x3) (fun k => ?_) ?_
    · simp only [laws_toByteS.l0]; rw [if_neg (by omega)]
    · exact Ev.eq (Ev.now _) (ext_getD hl (fun j hj => he j (by omega)))
  | succ d ih =>
    intro i x3 hl hd he
    refine Ev.step (fun k => ?_) (ih (i + 1) (x3.set i (x0.getD i 0)) (by simpa using hl) (by omega) ?_)
    · simp only [laws_toByteS.l0]
      rw [if_pos (by omega), if_pos (by omega), if_pos (by omega), w64 (by omega) (by omega), rd_nat]; rfl
    · intro j hj
      rw [getD_set _ _ _ _ (by omega)]
      by_cases h : j = i
      · rw [if_pos h, h]
      · rw [if_neg h]; exact he j (by omega)

theorem toByteS (l : List Int) (hn : l.length < 1099511627776) : Ev (fun k => laws_toByteS.f k l) l := by
  unfold laws_toByteS.f
  simp only [if_pos (show 0 ≤ (l.length : Int) by omega), if_pos (show ((l.length : Int)).toNat ≤ 281474976710656 by omega)]
  exact toByteS_l0 l hn l.length 0 _ (by simp) (by omega) (fun j hj => by omega)

theorem eqByteS_l0 (l m : List Int) (hn : l.length < 1099511627776) (hlm : l.length = m.length) (d : Nat) : ∀ (i : Nat), i + d = l.length → (∀ j, j < i → l.getD j 0 = m.getD j 0) → Ev (fun k => laws_eqByteS.l0 k l m (i : Int)) (decide (l = m)) := by
  induction d with
  | zero =>
    intro i hd he
    refine Ev.step (f := fun _ => some true) (fun k => ?_) ?_
    · simp only [laws_eqByteS.l0]; rw [if_neg (by omega)]
    · exact Ev.eq (Ev.now _) (decide_eq_true (ext_getD hlm (fun j hj => he j (by omega)))).symm
  | succ d ih =>
    intro i hd he
    by_cases h : l.getD i 0 = m.getD i 0
    · refine Ev.step (fun k => ?_) (ih (i + 1) (by omega) ?_)
      · simp only [laws_eqByteS.l0]
        rw [if_pos (by omega), if_pos (by omega), if_pos (by omega), rd_nat, rd_nat, if_pos h, w64 (by omega) (by omega)]; rfl
      · intro j hj
        by_cases e : j = i
        · rw [e]; exact h
        · exact he j (by omega)
    · refine Ev.step (f := fun _ => some false) (fun k => ?_) ?_
      · simp only [laws_eqByteS.l0]
        rw [if_pos (by omega), if_pos (by omega), if_pos (by omega), rd_nat, rd_nat, if_neg h]
      · exact Ev.eq (Ev.now _) (decide_eq_false (fun e => h (by rw [e]))).symm

theorem eqByteS (l m : List Int) (hn : l.length < 1099511627776) : Ev (fun k => laws_eqByteS.f k l m) (decide (l = m)) := by
  unfold laws_eqByteS.f
  by_cases h : l.length = m.length
  · simp only [if_pos (show (l.length : Int) = (m.length : Int) by omega)]
    exact eqByteS_l0 l m hn h l.length 0 (by omega) (fun j hj => by omega)
  · simp only [if_neg (show ¬ (l.length : Int) = (m.length : Int) by omega)]
    exact Ev.eq (Ev.now _) (decide_eq_false (fun e => h (by rw [e]))).symm

theorem eqByteS_same (l : List Int) (hn : l.length < 1099511627776) : Ev (fun k => laws_eqByteS.f k l l) true := by
  have := eqByteS l l hn
  simpa using this

end Go.Proofs.Ytijeackkgcnbgaa.YO

namespace Go.Proofs.Ytijeackkgcnbgaa.Pure
open Go.RowKit Go.Proofs.Ytijeackkgcnbgaa.Num Go.Proofs.Ytijeackkgcnbgaa.YO Go.Proofs.Ytijeackkgcnbgaa.XO Go.Proofs.Ytijeackkgcnbgaa.FldB Go.Proofs.Ytijeackkgcnbgaa.FldPt Go.Proofs.YtijeackkgcnbgaaW.PrintWords Go.Proofs.YtijeackkgcnbgaaW.PrintLast

theorem byte_wf {x : Int} (h : (Lit.int .u8 x).wf = true) : 0 ≤ x ∧ x < 256 := by
  simp [Lit.wf, IntKind.min, IntKind.max, IntKind.signed, IntKind.bits] at h
  omega
theorem FnExactPointOK : laws_FnExactPointOK.Pure := by
  intro l _ _ hw
  refine Ev.rounds (g := fun k => laws_FnExactPointOK.f k l) ?_
  have ho : okB l = true := by
    rw [okB, List.all_eq_true]
    intro x hx
    have h : 0 ≤ x ∧ x < 256 := byte_wf (hw x hx)
    rw [decide_eq_true h.1, decide_eq_true h.2]; rfl
  unfold laws_FnExactPointOK.f
  by_cases hl : (l.length : Int) > 1048576
  · simp only [if_pos hl]; exact Ev.now _
  · simp only [if_neg hl]
    have hs : spec_PointOK.f l = some (okP l) := by unfold spec_PointOK.f; rw [if_pos ho]
    have hi : impl_PointOK.f l = some (okP l) := by unfold impl_PointOK.f; rw [if_pos ho]
    refine Ev.bind (toByteS l (by omega)) ?_
    simp only [hs, Option.bind_some]
    refine Ev.bind (toByteS l (by omega)) ?_
    simp only [hi, Option.bind_some, bne_self_eq_false, Bool.false_eq_true, if_false]
    exact Ev.bind (toByteS l (by omega)) (Ev.bind (eqByteS_same l (by omega)) (Ev.now _))
end Go.Proofs.Ytijeackkgcnbgaa.Pure
