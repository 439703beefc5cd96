/- Plain facts: the laws' text of a number is one and the same text each time; lists that are swapped place by place; no program in sight. -/
import Derived.Test.YthacgkafdjnppaaYUBase
import Derived.Test.YthacgkafdjnppaaYLoops
namespace Go.Proofs.Ythacgkafdjnppaa.YU
open Go.RowKit Go.Proofs.Ythacgkafdjnppaa.Num Go.Proofs.Ythacgkafdjnppaa.Loops Go.Proofs.Ythacgkafdjnppaa.XU Go.Proofs.YthacgkafdjnppaaW.PrintWords Go.Proofs.YthacgkafdjnppaaW.PrintLast
theorem str_one (x : Int) : (strOfNums [x]).size = 1 := by
  rw [← data_length, strOfNums_data]; rfl
theorem str_app (a b : ByteArray) : (a ++ b).size = a.size + b.size := by
  simp [ByteArray.size_append]
theorem markText_l0 (n : Nat) : ∀ (x : Int) (acc : ByteArray), 0 ≤ x → x < 10 ^ n → x < 1099511627776 → acc.size + n ≤ 1000 → ∃ r, ∀ k, n < k → laws_markText.l0 k x acc = some r := by
  induction n with
  | zero =>
    intro x acc h0 h1 hb hs
    refine ⟨(⟨#[109]⟩ : ByteArray) ++ acc, fun k hk => ?_⟩
    obtain ⟨k, rfl⟩ : ∃ m, k = m + 1 := ⟨k - 1, by omega⟩
    simp only [laws_markText.l0]
    rw [if_neg (by simp at h1; omega), if_pos (by omega)]
  | succ n ih =>
    intro x acc h0 h1 hb hs
    by_cases c : x > 0
    · have e1 : Int.tdiv x 10 = x / 10 := Int.tdiv_eq_ediv_of_nonneg h0
      have h2 : x / 10 < 10 ^ n := by rw [Int.pow_succ] at h1; omega
      have hsz := str_app (strOfNums [wrap64 (48 + Int.tmod x 10) % 256]) acc
      rw [str_one] at hsz
      obtain ⟨r, hr⟩ := ih (x / 10) (strOfNums [wrap64 (48 + Int.tmod x 10) % 256] ++ acc) (by omega) h2 (by omega) (by omega)
      refine ⟨r, fun k hk => ?_⟩
      obtain ⟨k, rfl⟩ : ∃ m, k = m + 1 := ⟨k - 1, by omega⟩
      simp only [laws_markText.l0]
      rw [if_pos c]
      simp only [Option.bind_some]
      rw [str_one, if_pos (by omega), e1, w64 (n := x / 10) (by omega) (by omega)]
      exact hr k (by omega)
    · refine ⟨(⟨#[109]⟩ : ByteArray) ++ acc, fun k hk => ?_⟩
      obtain ⟨k, rfl⟩ : ∃ m, k = m + 1 := ⟨k - 1, by omega⟩
      simp only [laws_markText.l0]
      rw [if_neg c, if_pos (by omega)]
def mt (a : Int) : ByteArray := (laws_markText.f 14 a).getD ByteArray.empty
theorem mt_ev (a : Int) (h0 : 0 ≤ a) (h1 : a < 1099511627776) : Ev (fun k => laws_markText.f k a) (mt a) := by
  unfold mt laws_markText.f
  by_cases c : a ≤ 0
  · simp only [if_pos c]; exact Ev.now _
  · simp only [if_neg c]
    obtain ⟨r, hr⟩ := markText_l0 13 a (⟨#[]⟩ : ByteArray) h0 (by omega) h1 (by decide)
    rw [hr 14 (by omega)]
    exact ⟨14, fun k hk => hr k (by omega)⟩
section
variable {β : Type}
def swapped (l m : List β) (i : Nat) : List β := m.take i ++ l.drop i
theorem swapped_zero (l m : List β) : swapped l m 0 = l := by simp [swapped]
theorem swapped_all (l m : List β) (h : m.length = l.length) : swapped l m l.length = m := by rw [swapped, List.drop_length, List.append_nil, ← h, List.take_length]
theorem swapped_length (l m : List β) (i : Nat) (h : m.length = l.length) : (swapped l m i).length = l.length := by simp [swapped, h]; omega
theorem swapped_set (l m : List β) (i : Nat) (h : m.length = l.length) (hi : i < l.length) (y : β) (hy : m[i]? = some y) : (swapped l m i).set i y = swapped l m (i + 1) := by
  apply List.ext_getElem?
  intro j
  have hl : (m.take i).length = i := by simp; omega
  have hl2 : (m.take (i + 1)).length = i + 1 := by simp; omega
  unfold swapped
  rw [List.getElem?_set]
  by_cases e : i = j
  · subst e
    rw [if_pos rfl, if_pos (by simp; omega), List.getElem?_append_left (by omega), List.getElem?_take, if_pos (by omega), hy]
  · rw [if_neg e]
    by_cases c : j < i
    · rw [List.getElem?_append_left (by omega), List.getElem?_append_left (by omega), List.getElem?_take, List.getElem?_take, if_pos c, if_pos (by omega)]
    · rw [List.getElem?_append_right (by omega), List.getElem?_append_right (by omega), hl, hl2, List.getElem?_drop, List.getElem?_drop]
      congr 1; omega
end
end Go.Proofs.Ythacgkafdjnppaa.YU
