/- Plain facts on rows of bytes that a call has made: the block as it lies, and what a copy into it leaves. -/
import Derived.Test.YthacgkafdjnppaaYOpenWin
import Derived.Laws.CopyOwn
import Derived.StillTailTactics
namespace Go.Proofs.Ythacgkafdjnppaa.OpenCopy
open Go.RowKit Go.Proofs.YthacgkafdjnppaaW.PrintWords Go.Proofs.YthacgkafdjnppaaW.PrintLast Go.Proofs.YthacgkafdjnppaaW.PrintMore
section
variable {e : TypeId} {w : World} {base g n cap : Nat} {ok : Nat → Prop} {L : List Int}
theorem R_cur (h : Kd.R (Kd.int .u8) e w base ok (.slice (some ⟨g, 0, none⟩) n cap) L) :
    ∃ cur : Array Value, w.heap[g]? = some (.cells cur e (0, 0)) ∧ n = L.length ∧ n ≤ cap ∧ cap ≤ maxLen ∧ cur.size = cap ∧ cur.toList.take n = nums .u8 L ∧ base ≤ g ∧ ok g := by
  have hn := (Kd.R_reads' h).1
  obtain ⟨h0, inner, ho, hr⟩ := h
  rcases ho.2 with ⟨hv, _⟩ | ⟨g', cap', cur, hv, hb, hh, h1, h2, h3, h4⟩
  · cases hv
  · injection hv with ha _ hc
    injection ha with ha
    injection ha with ha _ _
    subst ha hc
    refine ⟨cur, hh, hn, by omega, h2, by rw [h3]; exact Nat.mul_one _, ?_, hb, h0 g (by simp [Value.ownBlock])⟩
    have h4' : cur.toList.take n = inner := by rw [hn, ← h4]; congr 1; exact (Nat.mul_one _).symm
    rw [h4']
    apply List.ext_getElem?
    intro j
    have hl : inner.length = L.length := by rw [hr.1]; exact Nat.mul_one _
    by_cases hj : j < L.length
    · have hq := hr.2 j _ (List.getElem?_eq_getElem hj)
      have hq2 : (inner.drop (j * 1)).take 1 = [.int .u8 L[j]] := hq
      rw [Nat.mul_one, List.drop_eq_getElem_cons (by omega)] at hq2
      simp only [List.take_succ_cons, List.take_zero, List.cons.injEq, and_true] at hq2
      rw [List.getElem?_eq_getElem (by omega), hq2]
      simp [nums, hj]
    · rw [List.getElem?_eq_none (by omega), List.getElem?_eq_none (by simp [nums]; omega)]
theorem R_of_cur {cur : Array Value} (hh : w.heap[g]? = some (.cells cur e (0, 0))) (hn : n = L.length) (hc : n ≤ cap) (hm : cap ≤ maxLen) (hs : cur.size = cap) (ht : cur.toList.take n = nums .u8 L) (hb : base ≤ g) (ho : ok g) :
    Kd.R (Kd.int .u8) e w base ok (.slice (some ⟨g, 0, none⟩) n cap) L := by
  subst hn
  refine ⟨fun k hk => ?_, nums .u8 L, ⟨by simp [nums]; exact (Nat.mul_one _).symm, .inr ⟨g, cap, cur, rfl, hb, hh, hc, hm, by rw [hs]; exact (Nat.mul_one _).symm, by rw [← ht]; congr 1; exact Nat.mul_one _⟩⟩, by simp [nums]; exact (Nat.mul_one _).symm, fun j p hj => ?_⟩
  · have : g = k := by simpa [Value.ownBlock] using hk
    rw [← this]; exact ho
  · have hl : j < L.length := (List.getElem?_eq_some_iff.1 hj).1
    show ((nums .u8 L).drop (j * 1)).take 1 = [.int .u8 p]
    rw [Nat.mul_one, List.drop_eq_getElem_cons (by simp [nums]; exact hl)]
    rw [List.getElem?_eq_getElem hl] at hj
    injection hj with hj
    simp [nums, hj]
def putL (l : List Int) (i : Nat) (s : List Int) : List Int :=
  let l' := l ++ List.replicate (32 * (i + 1) - l.length) 0
  l'.take (32 * i) ++ (s ++ l'.drop (32 * i + s.length))
def spliced (L S : List Int) (off : Nat) : List Int := L.take off ++ (S ++ L.drop (off + S.length))
theorem spliced_length (L S : List Int) (off : Nat) (h : off + S.length ≤ L.length) : (spliced L S off).length = L.length := by simp [spliced]; omega
theorem R_copy {cur : Array Value} {S : List Int} {off : Nat} (hh : w.heap[g]? = some (.cells cur e (0, 0))) (hn : n = L.length) (hc : n ≤ cap) (hm : cap ≤ maxLen) (hs : cur.size = cap) (ht : cur.toList.take n = nums .u8 L) (hb : base ≤ g) (ho : ok g)
    (hfit : off + S.length ≤ n) : Kd.R (Kd.int .u8) e (w.setRow g (cur.toList.take off ++ (nums .u8 S ++ cur.toList.drop (off + (nums .u8 S).length))).toArray) base ok (.slice (some ⟨g, 0, none⟩) n cap) (spliced L S off) := by
  have hsl : (nums .u8 S).length = S.length := by simp [nums]
  have hcl : cur.toList.length = cap := by simpa using hs
  refine R_of_cur (setRow_heap w g cur _ e _ hh) (by rw [spliced_length _ _ _ (by omega)]; exact hn) hc hm (by simp [hsl]; omega) ?_ hb ho
  have e1 : cur.toList = nums .u8 L ++ cur.toList.drop n := by rw [← ht, List.take_append_drop]
  have hnl : (nums .u8 L).length = n := by simp [nums, hn]
  show (cur.toList.take off ++ (nums .u8 S ++ cur.toList.drop (off + (nums .u8 S).length))).take n = nums .u8 (spliced L S off)
  rw [e1, hsl]
  have e2 : nums .u8 (spliced L S off) = (nums .u8 L).take off ++ (nums .u8 S ++ (nums .u8 L).drop (off + S.length)) := by simp [nums, spliced, List.map_take, List.map_drop]
  rw [e2]
  have hs1 : (nums .u8 S).length = S.length := hsl
  generalize nums .u8 L = X at *
  generalize nums .u8 S = Z at *
  have a1 : (X ++ cur.toList.drop n).take off = X.take off := List.take_append_of_le_length (by omega)
  have a2 : (X ++ cur.toList.drop n).drop (off + S.length) = X.drop (off + S.length) ++ cur.toList.drop n := List.drop_append_of_le_length (by omega)
  rw [a1, a2]
  have a3 : X.take off ++ (Z ++ (X.drop (off + S.length) ++ cur.toList.drop n)) = (X.take off ++ (Z ++ X.drop (off + S.length))) ++ cur.toList.drop n := by simp only [List.append_assoc]
  rw [a3]
  exact List.take_left' (by simp; omega)
theorem setRow_kept {P : Nat → Prop} {w0 : World} (hk : Kept w0 w P) (cs : Array Value) (hg : P g ∨ w0.heap.size ≤ g) : Kept w0 (w.setRow g cs) P :=
  hk.then_ (S2 := fun k => k = g) ⟨by simp, fun i _ hn => setRow_other w g i cs hn⟩ (fun k h => by rw [h]; exact hg)
theorem cut_at {P : Program} (t e : TypeId) (kl : IntKind) {i : TypeInfo} (ht : P.underlying t = some (.slice e)) (hi : P.info? e = some i) (hsz : i.size = 1) (g n cap off : Nat) (h1 : off ≤ n) (h2 : off < cap) (W : World) :
    (Instr.slice t (.slice (some ⟨g, 0, none⟩) n cap) (some (.int kl (off : Int))) none none).run P W = .ok (.slice (some ⟨g, off, none⟩) (n - off) (cap - off)) W := by
  have hel : P.elem t = e := by simp [Program.elem, ht]
  have hu : P.underlying t = some (.slice (P.elem t)) := by rw [hel]; exact ht
  rw [run_slice_l W t (some ⟨g, 0, none⟩) n cap hu kl off (by omega) (by omega), hel]
  have h3 : ¬ cap = off := by omega
  simp [sizeOf, typeInfo, hi, hsz, sliced, Result.andThen, Addr.add, h3]
  by_cases c : off = 0 <;> simp [c]
end
end Go.Proofs.Ythacgkafdjnppaa.OpenCopy
