/- Plain facts on what the laws' marks come to: bytes marked from a number on are held from that number on; no condition but sizes below 2 to the 40. -/
import Derived.Test.YthacgkafdjnppaaYUCommon
namespace Go.Proofs.Ythacgkafdjnppaa.YU
open Go.RowKit Go.Proofs.Ythacgkafdjnppaa.Num Go.Proofs.Ythacgkafdjnppaa.XU Go.Proofs.YthacgkafdjnppaaW.PrintWords Go.Proofs.YthacgkafdjnppaaW.PrintLast
def markL (a : Int) : Nat → List Int
  | 0 => []
  | n + 1 => markL a n ++ [(a + n) % 256]
theorem markL_length (a : Int) (n : Nat) : (markL a n).length = n := by induction n with
  | zero => rfl
  | succ n ih => simp [markL, ih]
theorem markL_getD (a : Int) (n : Nat) : ∀ i, i < n → (markL a n).getD i 0 = (a + i) % 256 := by
  induction n with
  | zero => intro i h; omega
  | succ n ih =>
    intro i h
    have hl := markL_length a n
    unfold markL
    simp only [List.getD_eq_getElem?_getD]
    by_cases e : i < n
    · rw [List.getElem?_append_left (by omega)]
      have := ih i e
      simpa [List.getD_eq_getElem?_getD] using this
    · rw [List.getElem?_append_right (by omega)]
      have : i = n := by omega
      subst this
      simp [hl]
theorem markByteS_l0 (l : List Int) (a : Int) (ha : 0 ≤ a) (ha1 : a < 1099511627776) (hn : l.length < 1099511627776) (d : Nat) : ∀ (i : Nat) (x : List Int), x.length = l.length → i + d = l.length → (∀ j, j < i → x.getD j 0 = (a + j) % 256) → Ev (fun k => laws_markByteS.l0 k x (a + i) (i : Int)) (a + l.length, markL a l.length) := by
  induction d with
  | zero =>
    intro i x hl hd he
    refine Ev.step (f := fun _ => some (a + i, x)) (fun k => ?_) ?_
    · simp only [laws_markByteS.l0]; rw [if_neg (by omega)]
    · refine Ev.eq (Ev.now _) ?_
      have : x = markL a l.length := ext_getD (by rw [hl, markL_length]) (fun j hj => by rw [he j (by omega), markL_getD a _ j (by omega)])
      rw [this, show i = l.length from by omega]
  | succ d ih =>
    intro i x hl hd he
    refine Ev.step (fun k => ?_) (ih (i + 1) (x.set i ((a + i) % 256)) (by simpa using hl) (by omega) ?_)
    · simp only [laws_markByteS.l0]
      rw [if_pos (by omega), if_pos (by omega), w64 (n := a + i + 1) (by omega) (by omega), w64 (n := (i : Int) + 1) (by omega) (by omega), Int.toNat_natCast]
      rw [show a + (i : Int) + 1 = a + ((i + 1 : Nat) : Int) from by omega]; rfl
    · intro j hj
      rw [getD_set _ _ _ _ (by omega)]
      by_cases h : j = i
      · rw [if_pos h, h]
      · rw [if_neg h]; exact he j (by omega)
theorem markByteS (l : List Int) (a : Int) (ha : 0 ≤ a) (ha1 : a < 1099511627776) (hn : l.length < 1099511627776) : Ev (fun k => laws_markByteS.f k l a) (a + l.length, markL a l.length) := by
  have := markByteS_l0 l a ha ha1 hn l.length 0 l rfl (by omega) (fun j hj => by omega)
  simpa [laws_markByteS.f] using this
end Go.Proofs.Ythacgkafdjnppaa.YU
