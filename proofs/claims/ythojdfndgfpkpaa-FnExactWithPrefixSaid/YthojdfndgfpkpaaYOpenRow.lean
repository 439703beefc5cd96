/- Plain facts on rows that a call has made, of elements of several cells: their end cleared, and the front kept. -/
import Derived.Test.YthojdfndgfpkpaaYOpenWin
import Derived.Lib.SliceRun
namespace Go.Proofs.Ythojdfndgfpkpaa.OpenRow
open Go.RowKit Go.Proofs.YthojdfndgfpkpaaW.PrintWords Go.Proofs.YthojdfndgfpkpaaW.PrintLast Go.Proofs.YthojdfndgfpkpaaW.PrintMore
set_option linter.unusedVariables false
section
variable {α : Type} {d : Kd α} {e base g n cap : Nat} {ok okp : Nat → Prop} {xs : List α}
theorem setCells_app (w : World) (b : Nat) : ∀ (x y : List Value) (o : Nat), w.setCells b o (x ++ y) = (w.setCells b o x).setCells b (o + x.length) y
  | [], y, o => by simp [World.setCells]
  | v :: x, y, o => by
    show (w.setCell ⟨b, o, none⟩ v).setCells b (o + 1) (x ++ y) = _
    rw [setCells_app _ b x y (o + 1)]
    show _ = ((w.setCell ⟨b, o, none⟩ v).setCells b (o + 1) x).setCells b (o + (x.length + 1)) y
    rw [show o + 1 + x.length = o + (x.length + 1) by omega]
def zeros (zc : List Value) : Nat → List Value
  | 0 => []
  | t + 1 => zc ++ zeros zc t
theorem zeros_length (zc : List Value) (t : Nat) : (zeros zc t).length = t * zc.length := by
  induction t with
  | zero => simp [zeros]
  | succ t ih => rw [zeros, List.length_append, ih, Nat.succ_mul]; omega
theorem clear_R {z : α} {zc : List Value} (hzl : zc.length = d.sz) (hs : 0 < d.sz) (hM : ∀ W : World, d.M W base okp z zc) (hokp : ∀ k, okp k → ok k ∧ k ≠ g) (t : Nat) : ∀ (i : Nat) (xs : List α) (W : World), i + t = n → d.R e W base ok (.slice (some ⟨g, 0, none⟩) n cap) xs →
    ∃ ys, d.R e (W.setCells g (i * d.sz) (zeros zc t)) base ok (.slice (some ⟨g, 0, none⟩) n cap) ys ∧ ys.take i = xs.take i ∧ W.grownBy (W.setCells g (i * d.sz) (zeros zc t)) (some g) := by
  induction t with
  | zero => intro i xs W _ h; exact ⟨xs, h, rfl, World.grownBy.refl W _⟩
  | succ t ih =>
    intro i xs W hi h
    have hn := (Kd.R_reads' h).1
    obtain ⟨c, hcl, hMc, hcc, hfr⟩ := Kd.R_elem h z (i : Int) (by omega) (by omega)
    have h2 := Kd.R_seg h (i : Int) (by omega) (by omega) (seg := zc) (j := 0) hcl hcc (by omega) (x' := z) (okp := okp) (by
      rw [List.take_zero, List.nil_append, Nat.zero_add, List.drop_of_length_le (by omega), List.append_nil]; exact hM W) hokp
    rw [Int.toNat_natCast, Nat.add_zero] at h2
    obtain ⟨ys, h3, h4, h5⟩ := ih (i + 1) _ _ (by omega) h2.1
    refine ⟨ys, ?_, ?_, ?_⟩
    · rw [zeros, setCells_app, hzl, show i * d.sz + d.sz = (i + 1) * d.sz by rw [Nat.succ_mul]]
      exact h3
    · have : (ys.take (i + 1)).take i = ((xs.set i z).take (i + 1)).take i := by rw [h4]
      rw [List.take_take, List.take_take, Nat.min_eq_left (by omega)] at this
      rw [this, List.take_set_of_le (by omega)]
    · rw [zeros, setCells_app, hzl, show i * d.sz + d.sz = (i + 1) * d.sz by rw [Nat.succ_mul]]
      exact World.grownBy.trans h2.2 h5
theorem zeros_get (zc : List Value) (h0 : 0 < zc.length) (t : Nat) : ∀ i, i < t * zc.length → (zeros zc t)[i]? = zc[i % zc.length]? := by
  induction t with
  | zero => intro i h; omega
  | succ t ih =>
    intro i h
    rw [zeros]
    by_cases c : i < zc.length
    · rw [List.getElem?_append_left c, Nat.mod_eq_of_lt c]
    · rw [List.getElem?_append_right (by omega), ih _ (by rw [Nat.succ_mul] at h; omega)]
      congr 1
      rw [← Nat.mod_eq_sub_mod (by omega)]
theorem zeroCells_is (zc : List Value) (h0 : 0 < zc.length) (m : Nat) : (Builtin.zeroCells zc.toArray m).toList = zeros zc m := by
  apply List.ext_getElem?
  intro i
  unfold Builtin.zeroCells
  by_cases c : i < m * zc.length
  · rw [zeros_get zc h0 m i c]
    have hlt : i % zc.length < zc.length := Nat.mod_lt _ h0
    simp [c, hlt]
  · rw [List.getElem?_eq_none (by simp; omega), List.getElem?_eq_none (by rw [zeros_length]; omega)]
theorem zeros_mem {zc : List Value} {m : Nat} {u : Value} (h : u ∈ zeros zc m) : u ∈ zc := by
  induction m with
  | zero => cases h
  | succ m ih => rw [zeros] at h; rcases List.mem_append.1 h with h | h
                 · exact h
                 · exact ih h
theorem run_clear {P : Program} (w : World) (t e ty : TypeId) (z : Value) (zc : List Value) (ht : P.underlying t = some (.slice e)) (hv : ∀ w, (zeroValue e).run P w = .ok z w) (hz : z.cells = zc.toArray) (h0 : 0 < zc.length) (h1 : ∀ u ∈ zc, u.oneCell' = true)
    (g o m c : Nat) (hm : 0 < m) (hc : ∀ j, j < m * zc.length → (w.cell? ⟨g, o + j, none⟩).isSome = true) (hf : ∀ j, j < m * zc.length → w.frozen? ⟨g, o + j, none⟩ = false) :
    (Builtin.clear_ #[t] ty #[.slice (some ⟨g, o, none⟩) m c]).run P w = .ok (.tuple #[]) (w.setCells g o (zeros zc m)) := by
  have hst := run_storeCells_cells (P := P) g o (zeros zc m) 0 w (by rw [zeros_length]; simpa using hc) (by rw [zeros_length]; simpa using hf) (fun v hv' => h1 v (zeros_mem hv'))
  simp only [Nat.add_zero] at hst
  obtain ⟨k, rfl⟩ : ∃ k, m = k + 1 := ⟨m - 1, by omega⟩
  simp [Builtin.clear_, run_underlying ht, hv, hz, zeroCells_is zc h0, hst]
theorem R_block {w : World} (h : d.R e w base ok (.slice (some ⟨g, 0, none⟩) n cap) xs) : ∃ cur : Array Value, w.heap[g]? = some (.cells cur e (0, 0)) ∧ cur.size = cap * d.sz ∧ n ≤ cap := by
  have hnc := (Kd.R_reads' h).2.1
  obtain ⟨_, inner, ho, _⟩ := h
  rcases ho.2 with ⟨hv, _⟩ | ⟨g', cap', cur, hv, _, hh, h1, _, h3, _⟩
  · cases hv
  · injection hv with ha hn hc
    injection ha with ha
    injection ha with ha _ _
    subst ha hc
    exact ⟨cur, hh, h3, hnc⟩
theorem cut_at {P : Program} (t e : TypeId) (kl : IntKind) {i : TypeInfo} (ht : P.underlying t = some (.slice e)) (hi : P.info? e = some i) {sz : Nat} (hsz : i.size = sz) (g n cap off : Nat) (h1 : off ≤ n) (h2 : off < cap) (W : World) :
    (Instr.slice t (.slice (some ⟨g, 0, none⟩) n cap) (some (.int kl (off : Int))) none none).run P W = .ok (.slice (some ⟨g, off * sz, none⟩) (n - off) (cap - off)) W := by
  have hel : P.elem t = e := by simp [Program.elem, ht]
  have hu : P.underlying t = some (.slice (P.elem t)) := by rw [hel]; exact ht
  rw [run_slice_l W t (some ⟨g, 0, none⟩) n cap hu kl off (by omega) (by omega), hel]
  have h3 : ¬ cap = off := by omega
  simp [sizeOf, typeInfo, hi, hsz, sliced, Result.andThen, Addr.add, h3]
  exact fun h => h.symm
theorem front_at {P : Program} (t e : TypeId) (kh : IntKind) {i : TypeInfo} (ht : P.underlying t = some (.slice e)) (hi : P.info? e = some i) (g n cap off : Nat) (h1 : off ≤ n) (h2 : n ≤ cap) (W : World) :
    (Instr.slice t (.slice (some ⟨g, 0, none⟩) n cap) none (some (.int kh (off : Int))) none).run P W = .ok (.slice (some ⟨g, 0, none⟩) off cap) W := by
  have hel : P.elem t = e := by simp [Program.elem, ht]
  have hu : P.underlying t = some (.slice (P.elem t)) := by rw [hel]; exact ht
  rw [run_slice_h W t (some ⟨g, 0, none⟩) n cap hu kh off (by omega) (by omega), hel]
  simp [sizeOf, typeInfo, hi, sliced, Result.andThen, Addr.add]
end
end Go.Proofs.Ythojdfndgfpkpaa.OpenRow
